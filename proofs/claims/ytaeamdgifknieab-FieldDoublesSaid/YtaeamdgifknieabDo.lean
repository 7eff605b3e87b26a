/- FieldDoubles' walk: once and as often as is asked, sixteen bytes are doubled as the document says. Conditions: sixteen bytes. -/
import Derived.Test.YtaeamdgifknieabTi
import Derived.Test.YtaeamdgifknieabAw
import Derived.Test.YtaeamdgifknieabWInvWords
import Derived.Test.YtaeamdgifknieabWMore
namespace Go.Proofs.Ytaeamdgifknieab.Do
open Go.RowKit Ar Tw Ti Aw Go.Proofs.YtaeamdgifknieabW.PrintWords Go.Proofs.YtaeamdgifknieabW.PrintLast Go.Proofs.YtaeamdgifknieabW.PrintMore
def Dbl.T1 : Bool × List (List Nat × List Nat) := (true, [([], []), ([0], [0]), ([], []), ([2, 1], [2]), ([1, 3], [1, 3]), ([4, 3], [4]), ([5], [5]), ([5], [5]), ([6, 7, 5, 5], [5, 6, 7]), ([5], [5]), ([5], [5]), ([9, 10, 8, 5], [5, 9, 10]), ([8, 11, 5], [5, 8, 11]), ([5, 12], [5, 12]), ([13, 11], [13]), ([14, 14], [14]), ([14, 15], [14, 15]), ([16, 15, 0, 1, 2, 3, 4, 5, 6, 7, 8, 9, 10, 11, 12, 13, 14, 15, 16], [16])])
def Dbl.B1 : List Nat := [0, 1, 0, 7, 15, 31, 63, 63, 255, 63, 63, 2047, 4095, 8191, 16383, 32767, 65535, 131071]
theorem Dbl.tab1 : rtab .any (opsOf Try.f4 1) = Dbl.T1 := by kernel_rfl
theorem Dbl.bits1 : waitsOk Dbl.T1.2 Dbl.B1 = true := by kernel_rfl
set_option linter.unusedVariables false
set_option linter.unusedSimpArgs false
set_option maxHeartbeats 4000000 in
set_option maxRecDepth 100000 in
theorem doubles (c : List Nat) (hc : Row16 c) (n : Int) (w : World) : Calls Try.prog 4 #[.agg (cells c), .int .i64 n] w fun e w' => e = .returned (.bool true) ∧ Below w.heap.size w w' := by
  have HC := Lib.hid hc
  have HL := Lib.hid hc.1
  have H2 := Lib.hid (twice_row hc)
  have HM := Lib.hid (times_row hc (cnt n))
  clear hc
  go_enter Try.func4, Try.ntmps4
  go_wp2_with fail
  have RB := Aside0.mk (show Row (w.alloc (.cells (cells c) 23)).drew w.heap.size c from Row.laid w c)
  have BL := Aside0.mk (((Below.refl w.heap.size w).alloc (Nat.le_refl _) (.cells (cells c) 23)).drew)
  refine start_ (n := 18) (S := fun w' => True) (ds := []) #[false, false, false, false, false, false, false, false, false, false, false, false, false, false, false, false, false, false] (by kernel_rfl) rfl rfl trivial (fun hHeld => ?_)
  refine with_tabW Dbl.tab1 Dbl.bits1 (fun HT_ HW_ => ?_)
  refine inv_at [0, 1, 2, 3, 4, 5, 6, 7, 8, 9, 10, 11, 12, 13, 14, 15, 16, 17] (fun a0_ b a w' => a = putSel a0_ b [(0, 5, .agg (cells c)), (1, 6, .agg (cells (twice c))), (2, 7, .agg (cells c)), (3, 8, .agg (cells (twice c))), (4, 9, .bool true), (5, 10, .bool true), (6, 11, .agg (cells c)), (7, 12, .int .i64 n), (8, 13, .agg (cells (times c (cnt n)))), (9, 14, .agg (cells c)), (10, 15, .int .i64 n), (11, 16, .agg (cells (times c (cnt n)))), (12, 17, .bool true), (13, 18, .bool true), (14, 19, .bool true), (15, 20, .bool true), (16, 21, .bool true), (17, 4, .bool true)] ∧ (Row w' w.heap.size c) ∧ (Below w.heap.size w w')) HT_.out HW_.out (by kernel_rfl) (by kernel_rfl) ?_ ?_ ?_
  · exact ⟨by simp only [putSel, Bool.false_eq_true, if_false], RB.out, BL.out⟩
  · skip
    clear BL RB
    refine steps_cons ?_ ?_
    · rintro b a w' ⟨ha, Q_RB, Q_BL⟩ hb_ hon hoff
      refine ⟨_, rfl, fun K hK => ?_⟩
      have e2 : a.tmps[2]? = some (.pointer (some ⟨w.heap.size, 0, none⟩)) := by rw [ha]; exact (putSel_off rfl).trans rfl
      replace ha := Aside0.mk ha
      have RB := Aside0.mk Q_RB
      have BL := Aside0.mk Q_BL
      refine load_row_ (g := w.heap.size) (c := c) (by rfl) rfl rfl (eval_of e2) RB.out HL.out ?_
      refine hK.out _ _ ⟨(by rw [ha.out]; exact putSel_upk 0 hb_ rfl rfl rfl), RB.out, BL.out⟩
    refine steps_cons ?_ ?_
    · rintro b a w' ⟨ha, Q_RB, Q_BL⟩ hb_ hon hoff
      refine ⟨_, rfl, fun K hK => ?_⟩
      have e5 : a.tmps[5]? = some (.agg (cells c)) := by rw [ha]; exact putSel_on (e := (0, 5, .agg (cells c))) 0 rfl rfl (hon 0 (by kernel_rfl)) rfl
      replace ha := Aside0.mk ha
      have RB := Aside0.mk Q_RB
      have BL := Aside0.mk Q_BL
      refine goes_ Try.func6 (by kernel_rfl) rfl #[.agg (cells c)] (by rfl) rfl rfl (by first | (simp only [List.map_toArray, List.map_cons, List.map_nil, Act.eval, Array.getD_eq_getD_getElem?, Option.getD_some, e5]; done) | (simp only [List.map_toArray, List.map_cons, List.map_nil, Act.eval, Array.getD_eq_getD_getElem?, Option.getD_some, e5]; rfl)) ?_
      refine (twice_any c HC.out _).mono ?_
      rintro e_ wx ⟨rfl, hbx⟩
      refine ⟨_, rfl, ?_⟩
      refine hK.out _ _ ⟨(by rw [ha.out]; exact putSel_upk 1 hb_ rfl rfl rfl), RB.out.below hbx RB.out.lt, BL.out.trans (hbx.mono BL.out.size)⟩
    refine steps_cons ?_ ?_
    · rintro b a w' ⟨ha, Q_RB, Q_BL⟩ hb_ hon hoff
      refine ⟨_, rfl, fun K hK => ?_⟩
      have e2 : a.tmps[2]? = some (.pointer (some ⟨w.heap.size, 0, none⟩)) := by rw [ha]; exact (putSel_off rfl).trans rfl
      replace ha := Aside0.mk ha
      have RB := Aside0.mk Q_RB
      have BL := Aside0.mk Q_BL
      refine load_row_ (g := w.heap.size) (c := c) (by rfl) rfl rfl (eval_of e2) RB.out HL.out ?_
      refine hK.out _ _ ⟨(by rw [ha.out]; exact putSel_upk 2 hb_ rfl rfl rfl), RB.out, BL.out⟩
    refine steps_cons ?_ ?_
    · rintro b a w' ⟨ha, Q_RB, Q_BL⟩ hb_ hon hoff
      refine ⟨_, rfl, fun K hK => ?_⟩
      have e7 : a.tmps[7]? = some (.agg (cells c)) := by rw [ha]; exact putSel_on (e := (2, 7, .agg (cells c))) 2 rfl rfl (hon 2 (by kernel_rfl)) rfl
      replace ha := Aside0.mk ha
      have RB := Aside0.mk Q_RB
      have BL := Aside0.mk Q_BL
      refine goes_ Try.func9 (by kernel_rfl) rfl #[.agg (cells c)] (by rfl) rfl rfl (by first | (simp only [List.map_toArray, List.map_cons, List.map_nil, Act.eval, Array.getD_eq_getD_getElem?, Option.getD_some, e7]; done) | (simp only [List.map_toArray, List.map_cons, List.map_nil, Act.eval, Array.getD_eq_getD_getElem?, Option.getD_some, e7]; rfl)) ?_
      refine (rtwice_c c HC.out _).mono ?_
      rintro e_ wx ⟨rfl, hbx⟩
      refine ⟨_, rfl, ?_⟩
      refine hK.out _ _ ⟨(by rw [ha.out]; exact putSel_upk 3 hb_ rfl rfl rfl), RB.out.below hbx RB.out.lt, BL.out.trans (hbx.mono BL.out.size)⟩
    refine steps_cons ?_ ?_
    · rintro b a w' ⟨ha, Q_RB, Q_BL⟩ hb_ hon hoff
      refine ⟨_, rfl, fun K hK => ?_⟩
      have e6 : a.tmps[6]? = some (.agg (cells (twice c))) := by rw [ha]; exact putSel_on (e := (1, 6, .agg (cells (twice c)))) 1 rfl rfl (hon 1 (by kernel_rfl)) rfl
      have e8 : a.tmps[8]? = some (.agg (cells (twice c))) := by rw [ha]; exact putSel_on (e := (3, 8, .agg (cells (twice c)))) 3 rfl rfl (hon 3 (by kernel_rfl)) rfl
      replace ha := Aside0.mk ha
      have RB := Aside0.mk Q_RB
      have BL := Aside0.mk Q_BL
      have heq := eql_same H2.out w'
      refine value_ (w1 := w') (v := .bool true) (by rfl) rfl ?_ ?_
      · go_simp
        (try simp only [i64_w])
        try rfl
      refine hK.out _ _ ⟨(by rw [ha.out]; exact putSel_upk 4 hb_ rfl rfl rfl), Q_RB, Q_BL⟩
    refine steps_cons ?_ ?_
    · rintro b a w' ⟨ha, Q_RB, Q_BL⟩ hb_ hon hoff
      refine ⟨_, rfl, fun K hK => ?_⟩
      have e9 : a.tmps[9]? = some (.bool true) := by rw [ha]; exact putSel_on (e := (4, 9, .bool true)) 4 rfl rfl (hon 4 (by kernel_rfl)) rfl
      replace ha := Aside0.mk ha
      have RB := Aside0.mk Q_RB
      have BL := Aside0.mk Q_BL
      refine value_ (w1 := w') (v := .bool true) (by rfl) rfl ?_ ?_
      · go_simp
        (try simp only [i64_w])
        try rfl
      refine hK.out _ _ ⟨(by rw [ha.out]; exact putSel_upk 5 hb_ rfl rfl rfl), Q_RB, Q_BL⟩
    refine steps_cons ?_ ?_
    · rintro b a w' ⟨ha, Q_RB, Q_BL⟩ hb_ hon hoff
      refine ⟨_, rfl, fun K hK => ?_⟩
      have e2 : a.tmps[2]? = some (.pointer (some ⟨w.heap.size, 0, none⟩)) := by rw [ha]; exact (putSel_off rfl).trans rfl
      have e10 : a.tmps[10]? = some (.bool true) := by rw [ha]; exact putSel_on (e := (5, 10, .bool true)) 5 rfl rfl (hon 5 (by kernel_rfl)) rfl
      replace ha := Aside0.mk ha
      have RB := Aside0.mk Q_RB
      have BL := Aside0.mk Q_BL
      refine load_row_ (g := w.heap.size) (c := c) (wanted_on rfl rfl rfl (e10.trans (by first | rfl | (simp [*]; done)))) rfl rfl (eval_of e2) RB.out HL.out ?_
      refine hK.out _ _ ⟨(by rw [ha.out]; exact putSel_upk 6 hb_ rfl rfl rfl), RB.out, BL.out⟩
    refine steps_cons ?_ ?_
    · rintro b a w' ⟨ha, Q_RB, Q_BL⟩ hb_ hon hoff
      refine ⟨_, rfl, fun K hK => ?_⟩
      have e1 : a.tmps[1]? = some (.int .i64 n) := by rw [ha]; exact (putSel_off rfl).trans rfl
      have e10 : a.tmps[10]? = some (.bool true) := by rw [ha]; exact putSel_on (e := (5, 10, .bool true)) 5 rfl rfl (hon 5 (by kernel_rfl)) rfl
      replace ha := Aside0.mk ha
      have RB := Aside0.mk Q_RB
      have BL := Aside0.mk Q_BL
      refine value_ (w1 := w') (v := .int .i64 n) (wanted_on rfl rfl rfl (e10.trans (by first | rfl | (simp [*]; done)))) rfl ?_ ?_
      · go_simp
        (try simp only [i64_w])
        try rfl
      refine hK.out _ _ ⟨(by rw [ha.out]; exact putSel_upk 7 hb_ rfl rfl rfl), Q_RB, Q_BL⟩
    refine steps_cons ?_ ?_
    · rintro b a w' ⟨ha, Q_RB, Q_BL⟩ hb_ hon hoff
      refine ⟨_, rfl, fun K hK => ?_⟩
      have e11 : a.tmps[11]? = some (.agg (cells c)) := by rw [ha]; exact putSel_on (e := (6, 11, .agg (cells c))) 6 rfl rfl (hon 6 (by kernel_rfl)) rfl
      have e12 : a.tmps[12]? = some (.int .i64 n) := by rw [ha]; exact putSel_on (e := (7, 12, .int .i64 n)) 7 rfl rfl (hon 7 (by kernel_rfl)) rfl
      have e10 : a.tmps[10]? = some (.bool true) := by rw [ha]; exact putSel_on (e := (5, 10, .bool true)) 5 rfl rfl (hon 5 (by kernel_rfl)) rfl
      replace ha := Aside0.mk ha
      have RB := Aside0.mk Q_RB
      have BL := Aside0.mk Q_BL
      refine goes_ Try.func10 (by kernel_rfl) rfl #[.agg (cells c), .int .i64 n] (wanted_on rfl rfl rfl (e10.trans (by first | rfl | (simp [*]; done)))) rfl rfl (by first | (simp only [List.map_toArray, List.map_cons, List.map_nil, Act.eval, Array.getD_eq_getD_getElem?, Option.getD_some, e11, e12, e10]; done) | (simp only [List.map_toArray, List.map_cons, List.map_nil, Act.eval, Array.getD_eq_getD_getElem?, Option.getD_some, e11, e12, e10]; rfl)) ?_
      refine (times_any c HC.out n _).mono ?_
      rintro e_ wx ⟨rfl, hbx⟩
      refine ⟨_, rfl, ?_⟩
      refine hK.out _ _ ⟨(by rw [ha.out]; exact putSel_upk 8 hb_ rfl rfl rfl), RB.out.below hbx RB.out.lt, BL.out.trans (hbx.mono BL.out.size)⟩
    refine steps_cons ?_ ?_
    · rintro b a w' ⟨ha, Q_RB, Q_BL⟩ hb_ hon hoff
      refine ⟨_, rfl, fun K hK => ?_⟩
      have e2 : a.tmps[2]? = some (.pointer (some ⟨w.heap.size, 0, none⟩)) := by rw [ha]; exact (putSel_off rfl).trans rfl
      have e10 : a.tmps[10]? = some (.bool true) := by rw [ha]; exact putSel_on (e := (5, 10, .bool true)) 5 rfl rfl (hon 5 (by kernel_rfl)) rfl
      replace ha := Aside0.mk ha
      have RB := Aside0.mk Q_RB
      have BL := Aside0.mk Q_BL
      refine load_row_ (g := w.heap.size) (c := c) (wanted_on rfl rfl rfl (e10.trans (by first | rfl | (simp [*]; done)))) rfl rfl (eval_of e2) RB.out HL.out ?_
      refine hK.out _ _ ⟨(by rw [ha.out]; exact putSel_upk 9 hb_ rfl rfl rfl), RB.out, BL.out⟩
    refine steps_cons ?_ ?_
    · rintro b a w' ⟨ha, Q_RB, Q_BL⟩ hb_ hon hoff
      refine ⟨_, rfl, fun K hK => ?_⟩
      have e1 : a.tmps[1]? = some (.int .i64 n) := by rw [ha]; exact (putSel_off rfl).trans rfl
      have e10 : a.tmps[10]? = some (.bool true) := by rw [ha]; exact putSel_on (e := (5, 10, .bool true)) 5 rfl rfl (hon 5 (by kernel_rfl)) rfl
      replace ha := Aside0.mk ha
      have RB := Aside0.mk Q_RB
      have BL := Aside0.mk Q_BL
      refine value_ (w1 := w') (v := .int .i64 n) (wanted_on rfl rfl rfl (e10.trans (by first | rfl | (simp [*]; done)))) rfl ?_ ?_
      · go_simp
        (try simp only [i64_w])
        try rfl
      refine hK.out _ _ ⟨(by rw [ha.out]; exact putSel_upk 10 hb_ rfl rfl rfl), Q_RB, Q_BL⟩
    refine steps_cons ?_ ?_
    · rintro b a w' ⟨ha, Q_RB, Q_BL⟩ hb_ hon hoff
      refine ⟨_, rfl, fun K hK => ?_⟩
      have e14 : a.tmps[14]? = some (.agg (cells c)) := by rw [ha]; exact putSel_on (e := (9, 14, .agg (cells c))) 9 rfl rfl (hon 9 (by kernel_rfl)) rfl
      have e15 : a.tmps[15]? = some (.int .i64 n) := by rw [ha]; exact putSel_on (e := (10, 15, .int .i64 n)) 10 rfl rfl (hon 10 (by kernel_rfl)) rfl
      have e10 : a.tmps[10]? = some (.bool true) := by rw [ha]; exact putSel_on (e := (5, 10, .bool true)) 5 rfl rfl (hon 5 (by kernel_rfl)) rfl
      replace ha := Aside0.mk ha
      have RB := Aside0.mk Q_RB
      have BL := Aside0.mk Q_BL
      refine goes_ Try.func11 (by kernel_rfl) rfl #[.agg (cells c), .int .i64 n] (wanted_on rfl rfl rfl (e10.trans (by first | rfl | (simp [*]; done)))) rfl rfl (by first | (simp only [List.map_toArray, List.map_cons, List.map_nil, Act.eval, Array.getD_eq_getD_getElem?, Option.getD_some, e14, e15, e10]; done) | (simp only [List.map_toArray, List.map_cons, List.map_nil, Act.eval, Array.getD_eq_getD_getElem?, Option.getD_some, e14, e15, e10]; rfl)) ?_
      refine (ref_times_any c HC.out n _).mono ?_
      rintro e_ wx ⟨rfl, hbx⟩
      refine ⟨_, rfl, ?_⟩
      refine hK.out _ _ ⟨(by rw [ha.out]; exact putSel_upk 11 hb_ rfl rfl rfl), RB.out.below hbx RB.out.lt, BL.out.trans (hbx.mono BL.out.size)⟩
    refine steps_cons ?_ ?_
    · rintro b a w' ⟨ha, Q_RB, Q_BL⟩ hb_ hon hoff
      refine ⟨_, rfl, fun K hK => ?_⟩
      have e13 : a.tmps[13]? = some (.agg (cells (times c (cnt n)))) := by rw [ha]; exact putSel_on (e := (8, 13, .agg (cells (times c (cnt n))))) 8 rfl rfl (hon 8 (by kernel_rfl)) rfl
      have e16 : a.tmps[16]? = some (.agg (cells (times c (cnt n)))) := by rw [ha]; exact putSel_on (e := (11, 16, .agg (cells (times c (cnt n))))) 11 rfl rfl (hon 11 (by kernel_rfl)) rfl
      have e10 : a.tmps[10]? = some (.bool true) := by rw [ha]; exact putSel_on (e := (5, 10, .bool true)) 5 rfl rfl (hon 5 (by kernel_rfl)) rfl
      replace ha := Aside0.mk ha
      have RB := Aside0.mk Q_RB
      have BL := Aside0.mk Q_BL
      have heq := eql_same HM.out w'
      refine value_ (w1 := w') (v := .bool true) (wanted_on rfl rfl rfl (e10.trans (by first | rfl | (simp [*]; done)))) rfl ?_ ?_
      · go_simp
        (try simp only [i64_w])
        try rfl
      refine hK.out _ _ ⟨(by rw [ha.out]; exact putSel_upk 12 hb_ rfl rfl rfl), Q_RB, Q_BL⟩
    refine steps_cons ?_ ?_
    · rintro b a w' ⟨ha, Q_RB, Q_BL⟩ hb_ hon hoff
      refine ⟨_, rfl, fun K hK => ?_⟩
      have e10 : a.tmps[10]? = some (.bool true) := by rw [ha]; exact putSel_on (e := (5, 10, .bool true)) 5 rfl rfl (hon 5 (by kernel_rfl)) rfl
      have e17 : a.tmps[17]? = some (.bool true) := by rw [ha]; exact putSel_on (e := (12, 17, .bool true)) 12 rfl rfl (hon 12 (by kernel_rfl)) rfl
      replace ha := Aside0.mk ha
      have RB := Aside0.mk Q_RB
      have BL := Aside0.mk Q_BL
      refine value_ (w1 := w') (v := .bool true) (by rfl) rfl ?_ ?_
      · go_simp
        (try simp only [i64_w])
        try rfl
      refine hK.out _ _ ⟨(by rw [ha.out]; exact putSel_upk 13 hb_ rfl rfl rfl), Q_RB, Q_BL⟩
    refine steps_cons ?_ ?_
    · rintro b a w' ⟨ha, Q_RB, Q_BL⟩ hb_ hon hoff
      refine ⟨_, rfl, fun K hK => ?_⟩
      have e18 : a.tmps[18]? = some (.bool true) := by rw [ha]; exact putSel_on (e := (13, 18, .bool true)) 13 rfl rfl (hon 13 (by kernel_rfl)) rfl
      replace ha := Aside0.mk ha
      have RB := Aside0.mk Q_RB
      have BL := Aside0.mk Q_BL
      refine value_ (w1 := w') (v := .bool true) (by rfl) rfl ?_ ?_
      · go_simp
        (try simp only [i64_w])
        try rfl
      refine hK.out _ _ ⟨(by rw [ha.out]; exact putSel_upk 14 hb_ rfl rfl rfl), Q_RB, Q_BL⟩
    refine steps_cons ?_ ?_
    · rintro b a w' ⟨ha, Q_RB, Q_BL⟩ hb_ hon hoff
      refine ⟨_, rfl, fun K hK => ?_⟩
      have e19 : a.tmps[19]? = some (.bool true) := by rw [ha]; exact putSel_on (e := (14, 19, .bool true)) 14 rfl rfl (hon 14 (by kernel_rfl)) rfl
      replace ha := Aside0.mk ha
      have RB := Aside0.mk Q_RB
      have BL := Aside0.mk Q_BL
      refine goes_ Try.func8 (by kernel_rfl) rfl #[] (wanted_on rfl rfl rfl (e19.trans (by first | rfl | (simp [*]; done)))) rfl rfl (by first | (simp only [List.map_toArray, List.map_cons, List.map_nil, Act.eval, Array.getD_eq_getD_getElem?, Option.getD_some, e19]; done) | (simp only [List.map_toArray, List.map_cons, List.map_nil, Act.eval, Array.getD_eq_getD_getElem?, Option.getD_some, e19]; rfl)) ?_
      refine (Aw.awake_any _).mono ?_
      rintro e_ wx ⟨rfl, ⟨nd, rfl⟩⟩
      refine ⟨_, rfl, ?_⟩
      refine hK.out _ _ ⟨(by rw [ha.out]; exact putSel_upk 15 hb_ rfl rfl rfl), RB.out.drewN nd, below_drewN BL.out nd⟩
    refine steps_cons ?_ ?_
    · rintro b a w' ⟨ha, Q_RB, Q_BL⟩ hb_ hon hoff
      refine ⟨_, rfl, fun K hK => ?_⟩
      have e19 : a.tmps[19]? = some (.bool true) := by rw [ha]; exact putSel_on (e := (14, 19, .bool true)) 14 rfl rfl (hon 14 (by kernel_rfl)) rfl
      have e20 : a.tmps[20]? = some (.bool true) := by rw [ha]; exact putSel_on (e := (15, 20, .bool true)) 15 rfl rfl (hon 15 (by kernel_rfl)) rfl
      replace ha := Aside0.mk ha
      have RB := Aside0.mk Q_RB
      have BL := Aside0.mk Q_BL
      refine value_ (w1 := w') (v := .bool true) (by rfl) rfl ?_ ?_
      · go_simp
        (try simp only [i64_w])
        try rfl
      refine hK.out _ _ ⟨(by rw [ha.out]; exact putSel_upk 16 hb_ rfl rfl rfl), Q_RB, Q_BL⟩
    refine steps_cons ?_ ?_
    · rintro b a w' ⟨ha, Q_RB, Q_BL⟩ hb_ hon hoff
      refine ⟨_, rfl, fun K hK => ?_⟩
      have e21 : a.tmps[21]? = some (.bool true) := by rw [ha]; exact putSel_on (e := (16, 21, .bool true)) 16 rfl rfl (hon 16 (by kernel_rfl)) rfl
      replace ha := Aside0.mk ha
      have RB := Aside0.mk Q_RB
      have BL := Aside0.mk Q_BL
      refine value_ (w1 := w') (v := .bool true) (by rfl) rfl ?_ ?_
      · go_simp
        (try simp only [i64_w])
        try rfl
      refine hK.out _ _ ⟨(by rw [ha.out]; exact putSel_upk 17 hb_ rfl rfl rfl), Q_RB, Q_BL⟩
    exact steps_nil
  · rintro b a w' hall ⟨ha, Q_RB, Q_BL⟩
    clear BL RB
    have hb0_ := hall 0 (by kernel_rfl)
    have hb1_ := hall 1 (by kernel_rfl)
    have hb2_ := hall 2 (by kernel_rfl)
    have hb3_ := hall 3 (by kernel_rfl)
    have hb4_ := hall 4 (by kernel_rfl)
    have hb5_ := hall 5 (by kernel_rfl)
    have hb6_ := hall 6 (by kernel_rfl)
    have hb7_ := hall 7 (by kernel_rfl)
    have hb8_ := hall 8 (by kernel_rfl)
    have hb9_ := hall 9 (by kernel_rfl)
    have hb10_ := hall 10 (by kernel_rfl)
    have hb11_ := hall 11 (by kernel_rfl)
    have hb12_ := hall 12 (by kernel_rfl)
    have hb13_ := hall 13 (by kernel_rfl)
    have hb14_ := hall 14 (by kernel_rfl)
    have hb15_ := hall 15 (by kernel_rfl)
    have hb16_ := hall 16 (by kernel_rfl)
    have hb17_ := hall 17 (by kernel_rfl)
    subst ha
    simp only [putSel, hb0_, hb1_, hb2_, hb3_, hb4_, hb5_, hb6_, hb7_, hb8_, hb9_, hb10_, hb11_, hb12_, hb13_, hb14_, hb15_, hb16_, hb17_, if_true, Act.put, List.setIfInBounds_toArray, List.set_cons_zero, List.set_cons_succ]
    have RB := Aside0.mk Q_RB
    clear Q_RB
    have BL := Aside0.mk Q_BL
    clear Q_BL
    clear hall hb0_ hb1_ hb2_ hb3_ hb4_ hb5_ hb6_ hb7_ hb8_ hb9_ hb10_ hb11_ hb12_ hb13_ hb14_ hb15_ hb16_ hb17_
    go_wp2_with fail
    go_ret
    exact ⟨rfl, BL.out⟩
end Go.Proofs.Ytaeamdgifknieab.Do
