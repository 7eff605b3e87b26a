/- FieldTimes' walk: doubled some times, and then some times more, is doubled as often together. Conditions: sixteen bytes; two numbers of 16 bits. -/
import Derived.Test.YtaeamdgifknieabTi
import Derived.Test.YtaeamdgifknieabAw
import Derived.Test.YtaeamdgifknieabWInvWords
import Derived.Test.YtaeamdgifknieabWMore
namespace Go.Proofs.Ytaeamdgifknieab.Tt
open Go.RowKit Ar Tw Ti Aw Go.Proofs.YtaeamdgifknieabW.PrintWords Go.Proofs.YtaeamdgifknieabW.PrintLast Go.Proofs.YtaeamdgifknieabW.PrintMore
theorem u16_of {m : Int} (w : (Lit.int .u16 m).wf = true) : 0 ≤ m ∧ m ≤ 65535 := by
  simpa [Lit.wf, IntKind.min, IntKind.max, IntKind.signed, IntKind.bits] using w
theorem times_at (c : List Nat) (hc : Row16 c) (z : Int) (k : Nat) (hz : z = (k : Int)) (hk : k ≤ 4096) (w : World) : Calls Try.prog 10 #[.agg (cells c), .int .i64 z] w fun e w' => e = .returned (.agg (cells (times c k))) ∧ Below w.heap.size w w' := by
  subst hz
  have h := times_any c hc (k : Int) w
  have e : cnt (k : Int) = k := by unfold cnt; omega
  rw [e] at h
  exact h
theorem times_twice (c : List Nat) (hc : Row16 c) (p q : Nat) (hq : q ≤ 4096) (w : World) : Calls Try.prog 10 #[.agg (cells (times c p)), .int .i64 (q : Int)] w fun e w' => e = .returned (.agg (cells (times c (p + q)))) ∧ Below w.heap.size w w' := by
  have h := times_at (times c p) (times_row hc p) _ q rfl hq w
  rw [times_times] at h
  exact h
def Tms.T2 : Bool × List (List Nat × List Nat) := (true, [([], []), ([], []), ([0, 1], [0, 1]), ([], []), ([2, 3, 2], [2, 3]), ([], []), ([], []), ([], []), ([6, 7], [6, 7]), ([5, 8, 4], [5, 8]), ([4, 9], [4, 9]), ([10, 9], [10]), ([11], [11]), ([12, 11, 11], [11, 12]), ([11], [11]), ([13, 14, 11], [11, 13, 14]), ([11, 15], [11, 15]), ([16, 13], [16]), ([17], [17]), ([18, 17, 17], [17, 18]), ([17], [17]), ([20, 19, 17], [17, 20]), ([19, 21, 17], [17, 19, 21]), ([17, 22], [17, 22]), ([23, 21], [23]), ([24, 24], [24]), ([24, 25], [24, 25]), ([26, 25, 0, 1, 2, 3, 4, 5, 6, 7, 8, 9, 10, 11, 12, 13, 14, 15, 16, 17, 18, 19, 20, 21, 22, 23, 24, 25, 26], [26])])
def Tms.B2 : List Nat := [0, 0, 3, 0, 15, 0, 0, 0, 192, 511, 1023, 2047, 4095, 8191, 4095, 32767, 65535, 131071, 262143, 524287, 262143, 2097151, 4194303, 8388607, 16777215, 33554431, 67108863, 134217727]
theorem Tms.tab2 : rtab .any (opsOf Try.f5 2) = Tms.T2 := by kernel_rfl
theorem Tms.bits2 : waitsOk Tms.T2.2 Tms.B2 = true := by kernel_rfl
set_option linter.unusedVariables false
set_option linter.unusedSimpArgs false
set_option maxHeartbeats 4000000 in
set_option maxRecDepth 100000 in
theorem times_law (c : List Nat) (hc : Row16 c) (m n : Int) (m0 : 0 ≤ m) (m1 : m ≤ 65535) (n0 : 0 ≤ n) (n1 : n ≤ 65535) (w : World) : Calls Try.prog 5 #[.agg (cells c), .int .u16 m, .int .u16 n] w fun e w' => e = .returned (.bool true) ∧ Below w.heap.size w w' := by
  have HC := Lib.hid hc
  have HL := Lib.hid hc.1
  have H2 := Lib.hid (twice_row hc)
  obtain ⟨p, hp⟩ : ∃ p : Nat, m % 2000 = (p : Int) := ⟨(m % 2000).toNat, by omega⟩
  obtain ⟨q, hq⟩ : ∃ q : Nat, n % 2000 = (q : Int) := ⟨(n % 2000).toNat, by omega⟩
  have HM := Lib.hid (times_row hc (p + q))
  have HP := Lib.hid (show p ≤ 4096 by omega)
  have HQ := Lib.hid (show q ≤ 4096 by omega)
  have HPQ := Lib.hid (show p + q ≤ 4096 by omega)
  have HS := Lib.hid (show (p : Int) + (q : Int) = ((p + q : Nat) : Int) by omega)
  have HW2_ := Lib.hid (show IntKind.i64.wrap ((p : Int) + (q : Int)) = (p : Int) + (q : Int) by rw [IntKind.wrap_i64]; omega)
  have hwm : wrap64 m = m := by unfold wrap64; omega
  have hwn : wrap64 n = n := by unfold wrap64; omega
  clear hc
  go_enter Try.func5, Try.ntmps5
  go_wp2_with fail
  rw [hp, hq]
  clear hp hq m0 m1 n0 n1 hwm hwn
  have RB := Aside0.mk (show Row (w.alloc (.cells (cells c) 23)).drew w.heap.size c from Row.laid w c)
  have BL := Aside0.mk (((Below.refl w.heap.size w).alloc (Nat.le_refl _) (.cells (cells c) 23)).drew)
  refine start_ (n := 28) (S := fun w' => True) (ds := []) #[false, false, false, false, false, false, false, false, false, false, false, false, false, false, false, false, false, false, false, false, false, false, false, false, false, false, false, false] (by kernel_rfl) rfl rfl trivial (fun hHeld => ?_)
  refine with_tabW Tms.tab2 Tms.bits2 (fun HT_ HW_ => ?_)
  refine inv_at [0, 1, 2, 3, 4, 5, 6, 7, 8, 9, 10, 11, 12, 13, 14, 15, 16, 17, 18, 19, 20, 21, 22, 23, 24, 25, 26, 27] (fun a0_ b a w' => a = putSel a0_ b [(0, 15, .agg (cells c)), (1, 16, .int .i64 (p : Int)), (2, 17, .agg (cells (times c p))), (3, 18, .int .i64 (q : Int)), (4, 19, .agg (cells (times c (p + q)))), (5, 20, .agg (cells c)), (6, 21, .int .i64 (p : Int)), (7, 22, .int .i64 (q : Int)), (8, 23, .int .i64 ((p : Int) + (q : Int))), (9, 24, .agg (cells (times c (p + q)))), (10, 25, .bool true), (11, 26, .bool true), (12, 27, .agg (cells c)), (13, 28, .agg (cells c)), (14, 29, .agg (cells c)), (15, 30, .bool true), (16, 31, .bool true), (17, 32, .bool true), (18, 33, .agg (cells c)), (19, 34, .agg (cells (twice c))), (20, 35, .agg (cells c)), (21, 36, .agg (cells (twice c))), (22, 37, .bool true), (23, 38, .bool true), (24, 39, .bool true), (25, 40, .bool true), (26, 41, .bool true), (27, 6, .bool true)] ∧ (Row w' w.heap.size c) ∧ (Below w.heap.size w w')) HT_.out HW_.out (by kernel_rfl) (by kernel_rfl) ?_ ?_ ?_
  · exact ⟨by simp only [putSel, Bool.false_eq_true, if_false], RB.out, BL.out⟩
  · skip
    clear BL RB
    refine steps_cons ?_ ?_
    · rintro b a w' ⟨ha, Q_RB, Q_BL⟩ hb_ hon hoff
      refine ⟨_, rfl, fun K hK => ?_⟩
      have e3 : a.tmps[3]? = some (.pointer (some ⟨w.heap.size, 0, none⟩)) := by rw [ha]; exact (putSel_off rfl).trans rfl
      replace ha := Aside0.mk ha
      have RB := Aside0.mk Q_RB
      have BL := Aside0.mk Q_BL
      refine load_row_ (g := w.heap.size) (c := c) (by rfl) rfl rfl (eval_of e3) RB.out HL.out ?_
      refine hK.out _ _ ⟨(by rw [ha.out]; exact putSel_upk 0 hb_ rfl rfl rfl), RB.out, BL.out⟩
    refine steps_cons ?_ ?_
    · rintro b a w' ⟨ha, Q_RB, Q_BL⟩ hb_ hon hoff
      refine ⟨_, rfl, fun K hK => ?_⟩
      have e7 : a.tmps[7]? = some (.int .i64 (p : Int)) := by rw [ha]; exact (putSel_off rfl).trans rfl
      replace ha := Aside0.mk ha
      have RB := Aside0.mk Q_RB
      have BL := Aside0.mk Q_BL
      refine value_ (w1 := w') (v := .int .i64 (p : Int)) (by rfl) rfl ?_ ?_
      · go_simp
        (try simp only [i64_w])
        try rfl
      refine hK.out _ _ ⟨(by rw [ha.out]; exact putSel_upk 1 hb_ rfl rfl rfl), Q_RB, Q_BL⟩
    refine steps_cons ?_ ?_
    · rintro b a w' ⟨ha, Q_RB, Q_BL⟩ hb_ hon hoff
      refine ⟨_, rfl, fun K hK => ?_⟩
      have e15 : a.tmps[15]? = some (.agg (cells c)) := by rw [ha]; exact putSel_on (e := (0, 15, .agg (cells c))) 0 rfl rfl (hon 0 (by kernel_rfl)) rfl
      have e16 : a.tmps[16]? = some (.int .i64 (p : Int)) := by rw [ha]; exact putSel_on (e := (1, 16, .int .i64 (p : Int))) 1 rfl rfl (hon 1 (by kernel_rfl)) rfl
      replace ha := Aside0.mk ha
      have RB := Aside0.mk Q_RB
      have BL := Aside0.mk Q_BL
      refine goes_ Try.func10 (by kernel_rfl) rfl #[.agg (cells c), .int .i64 (p : Int)] (by rfl) rfl rfl (by first | (simp only [List.map_toArray, List.map_cons, List.map_nil, Act.eval, Array.getD_eq_getD_getElem?, Option.getD_some, e15, e16]; done) | (simp only [List.map_toArray, List.map_cons, List.map_nil, Act.eval, Array.getD_eq_getD_getElem?, Option.getD_some, e15, e16]; rfl)) ?_
      refine (times_at c HC.out _ p rfl HP.out _).mono ?_
      rintro e_ wx ⟨rfl, hbx⟩
      refine ⟨_, rfl, ?_⟩
      refine hK.out _ _ ⟨(by rw [ha.out]; exact putSel_upk 2 hb_ rfl rfl rfl), RB.out.below hbx RB.out.lt, BL.out.trans (hbx.mono BL.out.size)⟩
    refine steps_cons ?_ ?_
    · rintro b a w' ⟨ha, Q_RB, Q_BL⟩ hb_ hon hoff
      refine ⟨_, rfl, fun K hK => ?_⟩
      have e8 : a.tmps[8]? = some (.int .i64 (q : Int)) := by rw [ha]; exact (putSel_off rfl).trans rfl
      replace ha := Aside0.mk ha
      have RB := Aside0.mk Q_RB
      have BL := Aside0.mk Q_BL
      refine value_ (w1 := w') (v := .int .i64 (q : Int)) (by rfl) rfl ?_ ?_
      · go_simp
        (try simp only [i64_w])
        try rfl
      refine hK.out _ _ ⟨(by rw [ha.out]; exact putSel_upk 3 hb_ rfl rfl rfl), Q_RB, Q_BL⟩
    refine steps_cons ?_ ?_
    · rintro b a w' ⟨ha, Q_RB, Q_BL⟩ hb_ hon hoff
      refine ⟨_, rfl, fun K hK => ?_⟩
      have e17 : a.tmps[17]? = some (.agg (cells (times c p))) := by rw [ha]; exact putSel_on (e := (2, 17, .agg (cells (times c p)))) 2 rfl rfl (hon 2 (by kernel_rfl)) rfl
      have e18 : a.tmps[18]? = some (.int .i64 (q : Int)) := by rw [ha]; exact putSel_on (e := (3, 18, .int .i64 (q : Int))) 3 rfl rfl (hon 3 (by kernel_rfl)) rfl
      replace ha := Aside0.mk ha
      have RB := Aside0.mk Q_RB
      have BL := Aside0.mk Q_BL
      refine goes_ Try.func10 (by kernel_rfl) rfl #[.agg (cells (times c p)), .int .i64 (q : Int)] (by rfl) rfl rfl (by first | (simp only [List.map_toArray, List.map_cons, List.map_nil, Act.eval, Array.getD_eq_getD_getElem?, Option.getD_some, e17, e18]; done) | (simp only [List.map_toArray, List.map_cons, List.map_nil, Act.eval, Array.getD_eq_getD_getElem?, Option.getD_some, e17, e18]; rfl)) ?_
      refine (times_twice c HC.out p q HQ.out _).mono ?_
      rintro e_ wx ⟨rfl, hbx⟩
      refine ⟨_, rfl, ?_⟩
      refine hK.out _ _ ⟨(by rw [ha.out]; exact putSel_upk 4 hb_ rfl rfl rfl), RB.out.below hbx RB.out.lt, BL.out.trans (hbx.mono BL.out.size)⟩
    refine steps_cons ?_ ?_
    · rintro b a w' ⟨ha, Q_RB, Q_BL⟩ hb_ hon hoff
      refine ⟨_, rfl, fun K hK => ?_⟩
      have e3 : a.tmps[3]? = some (.pointer (some ⟨w.heap.size, 0, none⟩)) := by rw [ha]; exact (putSel_off rfl).trans rfl
      replace ha := Aside0.mk ha
      have RB := Aside0.mk Q_RB
      have BL := Aside0.mk Q_BL
      refine load_row_ (g := w.heap.size) (c := c) (by rfl) rfl rfl (eval_of e3) RB.out HL.out ?_
      refine hK.out _ _ ⟨(by rw [ha.out]; exact putSel_upk 5 hb_ rfl rfl rfl), RB.out, BL.out⟩
    refine steps_cons ?_ ?_
    · rintro b a w' ⟨ha, Q_RB, Q_BL⟩ hb_ hon hoff
      refine ⟨_, rfl, fun K hK => ?_⟩
      have e7 : a.tmps[7]? = some (.int .i64 (p : Int)) := by rw [ha]; exact (putSel_off rfl).trans rfl
      replace ha := Aside0.mk ha
      have RB := Aside0.mk Q_RB
      have BL := Aside0.mk Q_BL
      refine value_ (w1 := w') (v := .int .i64 (p : Int)) (by rfl) rfl ?_ ?_
      · go_simp
        (try simp only [i64_w])
        try rfl
      refine hK.out _ _ ⟨(by rw [ha.out]; exact putSel_upk 6 hb_ rfl rfl rfl), Q_RB, Q_BL⟩
    refine steps_cons ?_ ?_
    · rintro b a w' ⟨ha, Q_RB, Q_BL⟩ hb_ hon hoff
      refine ⟨_, rfl, fun K hK => ?_⟩
      have e8 : a.tmps[8]? = some (.int .i64 (q : Int)) := by rw [ha]; exact (putSel_off rfl).trans rfl
      replace ha := Aside0.mk ha
      have RB := Aside0.mk Q_RB
      have BL := Aside0.mk Q_BL
      refine value_ (w1 := w') (v := .int .i64 (q : Int)) (by rfl) rfl ?_ ?_
      · go_simp
        (try simp only [i64_w])
        try rfl
      refine hK.out _ _ ⟨(by rw [ha.out]; exact putSel_upk 7 hb_ rfl rfl rfl), Q_RB, Q_BL⟩
    refine steps_cons ?_ ?_
    · rintro b a w' ⟨ha, Q_RB, Q_BL⟩ hb_ hon hoff
      refine ⟨_, rfl, fun K hK => ?_⟩
      have e21 : a.tmps[21]? = some (.int .i64 (p : Int)) := by rw [ha]; exact putSel_on (e := (6, 21, .int .i64 (p : Int))) 6 rfl rfl (hon 6 (by kernel_rfl)) rfl
      have e22 : a.tmps[22]? = some (.int .i64 (q : Int)) := by rw [ha]; exact putSel_on (e := (7, 22, .int .i64 (q : Int))) 7 rfl rfl (hon 7 (by kernel_rfl)) rfl
      replace ha := Aside0.mk ha
      have RB := Aside0.mk Q_RB
      have BL := Aside0.mk Q_BL
      have hwr := HW2_.out
      refine value_ (w1 := w') (v := .int .i64 ((p : Int) + (q : Int))) (by rfl) rfl ?_ ?_
      · go_simp
        (try simp only [i64_w])
        try rfl
      refine hK.out _ _ ⟨(by rw [ha.out]; exact putSel_upk 8 hb_ rfl rfl rfl), Q_RB, Q_BL⟩
    refine steps_cons ?_ ?_
    · rintro b a w' ⟨ha, Q_RB, Q_BL⟩ hb_ hon hoff
      refine ⟨_, rfl, fun K hK => ?_⟩
      have e20 : a.tmps[20]? = some (.agg (cells c)) := by rw [ha]; exact putSel_on (e := (5, 20, .agg (cells c))) 5 rfl rfl (hon 5 (by kernel_rfl)) rfl
      have e23 : a.tmps[23]? = some (.int .i64 ((p : Int) + (q : Int))) := by rw [ha]; exact putSel_on (e := (8, 23, .int .i64 ((p : Int) + (q : Int)))) 8 rfl rfl (hon 8 (by kernel_rfl)) rfl
      replace ha := Aside0.mk ha
      have RB := Aside0.mk Q_RB
      have BL := Aside0.mk Q_BL
      refine goes_ Try.func10 (by kernel_rfl) rfl #[.agg (cells c), .int .i64 ((p : Int) + (q : Int))] (by rfl) rfl rfl (by first | (simp only [List.map_toArray, List.map_cons, List.map_nil, Act.eval, Array.getD_eq_getD_getElem?, Option.getD_some, e20, e23]; done) | (simp only [List.map_toArray, List.map_cons, List.map_nil, Act.eval, Array.getD_eq_getD_getElem?, Option.getD_some, e20, e23]; rfl)) ?_
      refine (times_at c HC.out _ (p + q) HS.out HPQ.out _).mono ?_
      rintro e_ wx ⟨rfl, hbx⟩
      refine ⟨_, rfl, ?_⟩
      refine hK.out _ _ ⟨(by rw [ha.out]; exact putSel_upk 9 hb_ rfl rfl rfl), RB.out.below hbx RB.out.lt, BL.out.trans (hbx.mono BL.out.size)⟩
    refine steps_cons ?_ ?_
    · rintro b a w' ⟨ha, Q_RB, Q_BL⟩ hb_ hon hoff
      refine ⟨_, rfl, fun K hK => ?_⟩
      have e19 : a.tmps[19]? = some (.agg (cells (times c (p + q)))) := by rw [ha]; exact putSel_on (e := (4, 19, .agg (cells (times c (p + q))))) 4 rfl rfl (hon 4 (by kernel_rfl)) rfl
      have e24 : a.tmps[24]? = some (.agg (cells (times c (p + q)))) := by rw [ha]; exact putSel_on (e := (9, 24, .agg (cells (times c (p + q))))) 9 rfl rfl (hon 9 (by kernel_rfl)) rfl
      replace ha := Aside0.mk ha
      have RB := Aside0.mk Q_RB
      have BL := Aside0.mk Q_BL
      have heq := eql_same HM.out w'
      refine value_ (w1 := w') (v := .bool true) (by rfl) rfl ?_ ?_
      · go_simp
        (try simp only [i64_w])
        try rfl
      refine hK.out _ _ ⟨(by rw [ha.out]; exact putSel_upk 10 hb_ rfl rfl rfl), Q_RB, Q_BL⟩
    refine steps_cons ?_ ?_
    · rintro b a w' ⟨ha, Q_RB, Q_BL⟩ hb_ hon hoff
      refine ⟨_, rfl, fun K hK => ?_⟩
      have e25 : a.tmps[25]? = some (.bool true) := by rw [ha]; exact putSel_on (e := (10, 25, .bool true)) 10 rfl rfl (hon 10 (by kernel_rfl)) rfl
      replace ha := Aside0.mk ha
      have RB := Aside0.mk Q_RB
      have BL := Aside0.mk Q_BL
      refine value_ (w1 := w') (v := .bool true) (by rfl) rfl ?_ ?_
      · go_simp
        (try simp only [i64_w])
        try rfl
      refine hK.out _ _ ⟨(by rw [ha.out]; exact putSel_upk 11 hb_ rfl rfl rfl), Q_RB, Q_BL⟩
    refine steps_cons ?_ ?_
    · rintro b a w' ⟨ha, Q_RB, Q_BL⟩ hb_ hon hoff
      refine ⟨_, rfl, fun K hK => ?_⟩
      have e3 : a.tmps[3]? = some (.pointer (some ⟨w.heap.size, 0, none⟩)) := by rw [ha]; exact (putSel_off rfl).trans rfl
      have e26 : a.tmps[26]? = some (.bool true) := by rw [ha]; exact putSel_on (e := (11, 26, .bool true)) 11 rfl rfl (hon 11 (by kernel_rfl)) rfl
      replace ha := Aside0.mk ha
      have RB := Aside0.mk Q_RB
      have BL := Aside0.mk Q_BL
      refine load_row_ (g := w.heap.size) (c := c) (wanted_on rfl rfl rfl (e26.trans (by first | rfl | (simp [*]; done)))) rfl rfl (eval_of e3) RB.out HL.out ?_
      refine hK.out _ _ ⟨(by rw [ha.out]; exact putSel_upk 12 hb_ rfl rfl rfl), RB.out, BL.out⟩
    refine steps_cons ?_ ?_
    · rintro b a w' ⟨ha, Q_RB, Q_BL⟩ hb_ hon hoff
      refine ⟨_, rfl, fun K hK => ?_⟩
      have e27 : a.tmps[27]? = some (.agg (cells c)) := by rw [ha]; exact putSel_on (e := (12, 27, .agg (cells c))) 12 rfl rfl (hon 12 (by kernel_rfl)) rfl
      have e26 : a.tmps[26]? = some (.bool true) := by rw [ha]; exact putSel_on (e := (11, 26, .bool true)) 11 rfl rfl (hon 11 (by kernel_rfl)) rfl
      replace ha := Aside0.mk ha
      have RB := Aside0.mk Q_RB
      have BL := Aside0.mk Q_BL
      refine goes_ Try.func10 (by kernel_rfl) rfl #[.agg (cells c), .int .i64 0] (wanted_on rfl rfl rfl (e26.trans (by first | rfl | (simp [*]; done)))) rfl rfl (by first | (simp only [List.map_toArray, List.map_cons, List.map_nil, Act.eval, Array.getD_eq_getD_getElem?, Option.getD_some, e27, e26]; done) | (simp only [List.map_toArray, List.map_cons, List.map_nil, Act.eval, Array.getD_eq_getD_getElem?, Option.getD_some, e27, e26]; rfl)) ?_
      refine (times_at c HC.out _ 0 rfl (Nat.zero_le _) _).mono ?_
      rintro e_ wx ⟨rfl, hbx⟩
      refine ⟨_, rfl, ?_⟩
      refine hK.out _ _ ⟨(by rw [ha.out]; exact putSel_upk 13 hb_ rfl rfl rfl), RB.out.below hbx RB.out.lt, BL.out.trans (hbx.mono BL.out.size)⟩
    refine steps_cons ?_ ?_
    · rintro b a w' ⟨ha, Q_RB, Q_BL⟩ hb_ hon hoff
      refine ⟨_, rfl, fun K hK => ?_⟩
      have e3 : a.tmps[3]? = some (.pointer (some ⟨w.heap.size, 0, none⟩)) := by rw [ha]; exact (putSel_off rfl).trans rfl
      have e26 : a.tmps[26]? = some (.bool true) := by rw [ha]; exact putSel_on (e := (11, 26, .bool true)) 11 rfl rfl (hon 11 (by kernel_rfl)) rfl
      replace ha := Aside0.mk ha
      have RB := Aside0.mk Q_RB
      have BL := Aside0.mk Q_BL
      refine load_row_ (g := w.heap.size) (c := c) (wanted_on rfl rfl rfl (e26.trans (by first | rfl | (simp [*]; done)))) rfl rfl (eval_of e3) RB.out HL.out ?_
      refine hK.out _ _ ⟨(by rw [ha.out]; exact putSel_upk 14 hb_ rfl rfl rfl), RB.out, BL.out⟩
    refine steps_cons ?_ ?_
    · rintro b a w' ⟨ha, Q_RB, Q_BL⟩ hb_ hon hoff
      refine ⟨_, rfl, fun K hK => ?_⟩
      have e28 : a.tmps[28]? = some (.agg (cells c)) := by rw [ha]; exact putSel_on (e := (13, 28, .agg (cells c))) 13 rfl rfl (hon 13 (by kernel_rfl)) rfl
      have e29 : a.tmps[29]? = some (.agg (cells c)) := by rw [ha]; exact putSel_on (e := (14, 29, .agg (cells c))) 14 rfl rfl (hon 14 (by kernel_rfl)) rfl
      have e26 : a.tmps[26]? = some (.bool true) := by rw [ha]; exact putSel_on (e := (11, 26, .bool true)) 11 rfl rfl (hon 11 (by kernel_rfl)) rfl
      replace ha := Aside0.mk ha
      have RB := Aside0.mk Q_RB
      have BL := Aside0.mk Q_BL
      have heq := eql_same HC.out w'
      refine value_ (w1 := w') (v := .bool true) (wanted_on rfl rfl rfl (e26.trans (by first | rfl | (simp [*]; done)))) rfl ?_ ?_
      · go_simp
        (try simp only [i64_w])
        try rfl
      refine hK.out _ _ ⟨(by rw [ha.out]; exact putSel_upk 15 hb_ rfl rfl rfl), Q_RB, Q_BL⟩
    refine steps_cons ?_ ?_
    · rintro b a w' ⟨ha, Q_RB, Q_BL⟩ hb_ hon hoff
      refine ⟨_, rfl, fun K hK => ?_⟩
      have e26 : a.tmps[26]? = some (.bool true) := by rw [ha]; exact putSel_on (e := (11, 26, .bool true)) 11 rfl rfl (hon 11 (by kernel_rfl)) rfl
      have e30 : a.tmps[30]? = some (.bool true) := by rw [ha]; exact putSel_on (e := (15, 30, .bool true)) 15 rfl rfl (hon 15 (by kernel_rfl)) rfl
      replace ha := Aside0.mk ha
      have RB := Aside0.mk Q_RB
      have BL := Aside0.mk Q_BL
      refine value_ (w1 := w') (v := .bool true) (by rfl) rfl ?_ ?_
      · go_simp
        (try simp only [i64_w])
        try rfl
      refine hK.out _ _ ⟨(by rw [ha.out]; exact putSel_upk 16 hb_ rfl rfl rfl), Q_RB, Q_BL⟩
    refine steps_cons ?_ ?_
    · rintro b a w' ⟨ha, Q_RB, Q_BL⟩ hb_ hon hoff
      refine ⟨_, rfl, fun K hK => ?_⟩
      have e31 : a.tmps[31]? = some (.bool true) := by rw [ha]; exact putSel_on (e := (16, 31, .bool true)) 16 rfl rfl (hon 16 (by kernel_rfl)) rfl
      replace ha := Aside0.mk ha
      have RB := Aside0.mk Q_RB
      have BL := Aside0.mk Q_BL
      refine value_ (w1 := w') (v := .bool true) (by rfl) rfl ?_ ?_
      · go_simp
        (try simp only [i64_w])
        try rfl
      refine hK.out _ _ ⟨(by rw [ha.out]; exact putSel_upk 17 hb_ rfl rfl rfl), Q_RB, Q_BL⟩
    refine steps_cons ?_ ?_
    · rintro b a w' ⟨ha, Q_RB, Q_BL⟩ hb_ hon hoff
      refine ⟨_, rfl, fun K hK => ?_⟩
      have e3 : a.tmps[3]? = some (.pointer (some ⟨w.heap.size, 0, none⟩)) := by rw [ha]; exact (putSel_off rfl).trans rfl
      have e32 : a.tmps[32]? = some (.bool true) := by rw [ha]; exact putSel_on (e := (17, 32, .bool true)) 17 rfl rfl (hon 17 (by kernel_rfl)) rfl
      replace ha := Aside0.mk ha
      have RB := Aside0.mk Q_RB
      have BL := Aside0.mk Q_BL
      refine load_row_ (g := w.heap.size) (c := c) (wanted_on rfl rfl rfl (e32.trans (by first | rfl | (simp [*]; done)))) rfl rfl (eval_of e3) RB.out HL.out ?_
      refine hK.out _ _ ⟨(by rw [ha.out]; exact putSel_upk 18 hb_ rfl rfl rfl), RB.out, BL.out⟩
    refine steps_cons ?_ ?_
    · rintro b a w' ⟨ha, Q_RB, Q_BL⟩ hb_ hon hoff
      refine ⟨_, rfl, fun K hK => ?_⟩
      have e33 : a.tmps[33]? = some (.agg (cells c)) := by rw [ha]; exact putSel_on (e := (18, 33, .agg (cells c))) 18 rfl rfl (hon 18 (by kernel_rfl)) rfl
      have e32 : a.tmps[32]? = some (.bool true) := by rw [ha]; exact putSel_on (e := (17, 32, .bool true)) 17 rfl rfl (hon 17 (by kernel_rfl)) rfl
      replace ha := Aside0.mk ha
      have RB := Aside0.mk Q_RB
      have BL := Aside0.mk Q_BL
      refine goes_ Try.func10 (by kernel_rfl) rfl #[.agg (cells c), .int .i64 1] (wanted_on rfl rfl rfl (e32.trans (by first | rfl | (simp [*]; done)))) rfl rfl (by first | (simp only [List.map_toArray, List.map_cons, List.map_nil, Act.eval, Array.getD_eq_getD_getElem?, Option.getD_some, e33, e32]; done) | (simp only [List.map_toArray, List.map_cons, List.map_nil, Act.eval, Array.getD_eq_getD_getElem?, Option.getD_some, e33, e32]; rfl)) ?_
      refine (times_at c HC.out _ 1 rfl (by omega) _).mono ?_
      rintro e_ wx ⟨rfl, hbx⟩
      refine ⟨_, rfl, ?_⟩
      refine hK.out _ _ ⟨(by rw [ha.out]; exact putSel_upk 19 hb_ rfl rfl rfl), RB.out.below hbx RB.out.lt, BL.out.trans (hbx.mono BL.out.size)⟩
    refine steps_cons ?_ ?_
    · rintro b a w' ⟨ha, Q_RB, Q_BL⟩ hb_ hon hoff
      refine ⟨_, rfl, fun K hK => ?_⟩
      have e3 : a.tmps[3]? = some (.pointer (some ⟨w.heap.size, 0, none⟩)) := by rw [ha]; exact (putSel_off rfl).trans rfl
      have e32 : a.tmps[32]? = some (.bool true) := by rw [ha]; exact putSel_on (e := (17, 32, .bool true)) 17 rfl rfl (hon 17 (by kernel_rfl)) rfl
      replace ha := Aside0.mk ha
      have RB := Aside0.mk Q_RB
      have BL := Aside0.mk Q_BL
      refine load_row_ (g := w.heap.size) (c := c) (wanted_on rfl rfl rfl (e32.trans (by first | rfl | (simp [*]; done)))) rfl rfl (eval_of e3) RB.out HL.out ?_
      refine hK.out _ _ ⟨(by rw [ha.out]; exact putSel_upk 20 hb_ rfl rfl rfl), RB.out, BL.out⟩
    refine steps_cons ?_ ?_
    · rintro b a w' ⟨ha, Q_RB, Q_BL⟩ hb_ hon hoff
      refine ⟨_, rfl, fun K hK => ?_⟩
      have e35 : a.tmps[35]? = some (.agg (cells c)) := by rw [ha]; exact putSel_on (e := (20, 35, .agg (cells c))) 20 rfl rfl (hon 20 (by kernel_rfl)) rfl
      have e32 : a.tmps[32]? = some (.bool true) := by rw [ha]; exact putSel_on (e := (17, 32, .bool true)) 17 rfl rfl (hon 17 (by kernel_rfl)) rfl
      replace ha := Aside0.mk ha
      have RB := Aside0.mk Q_RB
      have BL := Aside0.mk Q_BL
      refine goes_ Try.func6 (by kernel_rfl) rfl #[.agg (cells c)] (wanted_on rfl rfl rfl (e32.trans (by first | rfl | (simp [*]; done)))) rfl rfl (by first | (simp only [List.map_toArray, List.map_cons, List.map_nil, Act.eval, Array.getD_eq_getD_getElem?, Option.getD_some, e35, e32]; done) | (simp only [List.map_toArray, List.map_cons, List.map_nil, Act.eval, Array.getD_eq_getD_getElem?, Option.getD_some, e35, e32]; rfl)) ?_
      refine (twice_any c HC.out _).mono ?_
      rintro e_ wx ⟨rfl, hbx⟩
      refine ⟨_, rfl, ?_⟩
      refine hK.out _ _ ⟨(by rw [ha.out]; exact putSel_upk 21 hb_ rfl rfl rfl), RB.out.below hbx RB.out.lt, BL.out.trans (hbx.mono BL.out.size)⟩
    refine steps_cons ?_ ?_
    · rintro b a w' ⟨ha, Q_RB, Q_BL⟩ hb_ hon hoff
      refine ⟨_, rfl, fun K hK => ?_⟩
      have e34 : a.tmps[34]? = some (.agg (cells (twice c))) := by rw [ha]; exact putSel_on (e := (19, 34, .agg (cells (twice c)))) 19 rfl rfl (hon 19 (by kernel_rfl)) rfl
      have e36 : a.tmps[36]? = some (.agg (cells (twice c))) := by rw [ha]; exact putSel_on (e := (21, 36, .agg (cells (twice c)))) 21 rfl rfl (hon 21 (by kernel_rfl)) rfl
      have e32 : a.tmps[32]? = some (.bool true) := by rw [ha]; exact putSel_on (e := (17, 32, .bool true)) 17 rfl rfl (hon 17 (by kernel_rfl)) rfl
      replace ha := Aside0.mk ha
      have RB := Aside0.mk Q_RB
      have BL := Aside0.mk Q_BL
      have heq := eql_same H2.out w'
      refine value_ (w1 := w') (v := .bool true) (wanted_on rfl rfl rfl (e32.trans (by first | rfl | (simp [*]; done)))) rfl ?_ ?_
      · go_simp
        (try simp only [i64_w])
        try rfl
      refine hK.out _ _ ⟨(by rw [ha.out]; exact putSel_upk 22 hb_ rfl rfl rfl), Q_RB, Q_BL⟩
    refine steps_cons ?_ ?_
    · rintro b a w' ⟨ha, Q_RB, Q_BL⟩ hb_ hon hoff
      refine ⟨_, rfl, fun K hK => ?_⟩
      have e32 : a.tmps[32]? = some (.bool true) := by rw [ha]; exact putSel_on (e := (17, 32, .bool true)) 17 rfl rfl (hon 17 (by kernel_rfl)) rfl
      have e37 : a.tmps[37]? = some (.bool true) := by rw [ha]; exact putSel_on (e := (22, 37, .bool true)) 22 rfl rfl (hon 22 (by kernel_rfl)) rfl
      replace ha := Aside0.mk ha
      have RB := Aside0.mk Q_RB
      have BL := Aside0.mk Q_BL
      refine value_ (w1 := w') (v := .bool true) (by rfl) rfl ?_ ?_
      · go_simp
        (try simp only [i64_w])
        try rfl
      refine hK.out _ _ ⟨(by rw [ha.out]; exact putSel_upk 23 hb_ rfl rfl rfl), Q_RB, Q_BL⟩
    refine steps_cons ?_ ?_
    · rintro b a w' ⟨ha, Q_RB, Q_BL⟩ hb_ hon hoff
      refine ⟨_, rfl, fun K hK => ?_⟩
      have e38 : a.tmps[38]? = some (.bool true) := by rw [ha]; exact putSel_on (e := (23, 38, .bool true)) 23 rfl rfl (hon 23 (by kernel_rfl)) rfl
      replace ha := Aside0.mk ha
      have RB := Aside0.mk Q_RB
      have BL := Aside0.mk Q_BL
      refine value_ (w1 := w') (v := .bool true) (by rfl) rfl ?_ ?_
      · go_simp
        (try simp only [i64_w])
        try rfl
      refine hK.out _ _ ⟨(by rw [ha.out]; exact putSel_upk 24 hb_ rfl rfl rfl), Q_RB, Q_BL⟩
    refine steps_cons ?_ ?_
    · rintro b a w' ⟨ha, Q_RB, Q_BL⟩ hb_ hon hoff
      refine ⟨_, rfl, fun K hK => ?_⟩
      have e39 : a.tmps[39]? = some (.bool true) := by rw [ha]; exact putSel_on (e := (24, 39, .bool true)) 24 rfl rfl (hon 24 (by kernel_rfl)) rfl
      replace ha := Aside0.mk ha
      have RB := Aside0.mk Q_RB
      have BL := Aside0.mk Q_BL
      refine goes_ Try.func8 (by kernel_rfl) rfl #[] (wanted_on rfl rfl rfl (e39.trans (by first | rfl | (simp [*]; done)))) rfl rfl (by first | (simp only [List.map_toArray, List.map_cons, List.map_nil, Act.eval, Array.getD_eq_getD_getElem?, Option.getD_some, e39]; done) | (simp only [List.map_toArray, List.map_cons, List.map_nil, Act.eval, Array.getD_eq_getD_getElem?, Option.getD_some, e39]; rfl)) ?_
      refine (Aw.awake_any _).mono ?_
      rintro e_ wx ⟨rfl, ⟨nd, rfl⟩⟩
      refine ⟨_, rfl, ?_⟩
      refine hK.out _ _ ⟨(by rw [ha.out]; exact putSel_upk 25 hb_ rfl rfl rfl), RB.out.drewN nd, below_drewN BL.out nd⟩
    refine steps_cons ?_ ?_
    · rintro b a w' ⟨ha, Q_RB, Q_BL⟩ hb_ hon hoff
      refine ⟨_, rfl, fun K hK => ?_⟩
      have e39 : a.tmps[39]? = some (.bool true) := by rw [ha]; exact putSel_on (e := (24, 39, .bool true)) 24 rfl rfl (hon 24 (by kernel_rfl)) rfl
      have e40 : a.tmps[40]? = some (.bool true) := by rw [ha]; exact putSel_on (e := (25, 40, .bool true)) 25 rfl rfl (hon 25 (by kernel_rfl)) rfl
      replace ha := Aside0.mk ha
      have RB := Aside0.mk Q_RB
      have BL := Aside0.mk Q_BL
      refine value_ (w1 := w') (v := .bool true) (by rfl) rfl ?_ ?_
      · go_simp
        (try simp only [i64_w])
        try rfl
      refine hK.out _ _ ⟨(by rw [ha.out]; exact putSel_upk 26 hb_ rfl rfl rfl), Q_RB, Q_BL⟩
    refine steps_cons ?_ ?_
    · rintro b a w' ⟨ha, Q_RB, Q_BL⟩ hb_ hon hoff
      refine ⟨_, rfl, fun K hK => ?_⟩
      have e41 : a.tmps[41]? = some (.bool true) := by rw [ha]; exact putSel_on (e := (26, 41, .bool true)) 26 rfl rfl (hon 26 (by kernel_rfl)) rfl
      replace ha := Aside0.mk ha
      have RB := Aside0.mk Q_RB
      have BL := Aside0.mk Q_BL
      refine value_ (w1 := w') (v := .bool true) (by rfl) rfl ?_ ?_
      · go_simp
        (try simp only [i64_w])
        try rfl
      refine hK.out _ _ ⟨(by rw [ha.out]; exact putSel_upk 27 hb_ rfl rfl rfl), Q_RB, Q_BL⟩
    exact steps_nil
  · rintro b a w' hall ⟨ha, Q_RB, Q_BL⟩
    clear BL RB
    have hb0_ := hall 0 (by kernel_rfl)
    have hb1_ := hall 1 (by kernel_rfl)
    have hb2_ := hall 2 (by kernel_rfl)
    have hb3_ := hall 3 (by kernel_rfl)
    have hb4_ := hall 4 (by kernel_rfl)
    have hb5_ := hall 5 (by kernel_rfl)
    have hb6_ := hall 6 (by kernel_rfl)
    have hb7_ := hall 7 (by kernel_rfl)
    have hb8_ := hall 8 (by kernel_rfl)
    have hb9_ := hall 9 (by kernel_rfl)
    have hb10_ := hall 10 (by kernel_rfl)
    have hb11_ := hall 11 (by kernel_rfl)
    have hb12_ := hall 12 (by kernel_rfl)
    have hb13_ := hall 13 (by kernel_rfl)
    have hb14_ := hall 14 (by kernel_rfl)
    have hb15_ := hall 15 (by kernel_rfl)
    have hb16_ := hall 16 (by kernel_rfl)
    have hb17_ := hall 17 (by kernel_rfl)
    have hb18_ := hall 18 (by kernel_rfl)
    have hb19_ := hall 19 (by kernel_rfl)
    have hb20_ := hall 20 (by kernel_rfl)
    have hb21_ := hall 21 (by kernel_rfl)
    have hb22_ := hall 22 (by kernel_rfl)
    have hb23_ := hall 23 (by kernel_rfl)
    have hb24_ := hall 24 (by kernel_rfl)
    have hb25_ := hall 25 (by kernel_rfl)
    have hb26_ := hall 26 (by kernel_rfl)
    have hb27_ := hall 27 (by kernel_rfl)
    subst ha
    simp only [putSel, hb0_, hb1_, hb2_, hb3_, hb4_, hb5_, hb6_, hb7_, hb8_, hb9_, hb10_, hb11_, hb12_, hb13_, hb14_, hb15_, hb16_, hb17_, hb18_, hb19_, hb20_, hb21_, hb22_, hb23_, hb24_, hb25_, hb26_, hb27_, if_true, Act.put, List.setIfInBounds_toArray, List.set_cons_zero, List.set_cons_succ]
    have RB := Aside0.mk Q_RB
    clear Q_RB
    have BL := Aside0.mk Q_BL
    clear Q_BL
    clear hall hb0_ hb1_ hb2_ hb3_ hb4_ hb5_ hb6_ hb7_ hb8_ hb9_ hb10_ hb11_ hb12_ hb13_ hb14_ hb15_ hb16_ hb17_ hb18_ hb19_ hb20_ hb21_ hb22_ hb23_ hb24_ hb25_ hb26_ hb27_
    go_wp2_with fail
    go_ret
    exact ⟨rfl, BL.out⟩
end Go.Proofs.Ytaeamdgifknieab.Tt
