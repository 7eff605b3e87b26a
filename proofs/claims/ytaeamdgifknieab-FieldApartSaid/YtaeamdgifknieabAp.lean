/- FieldApart's walk: no two bytes have one Affine, and no two rows of sixteen one double; what is doubled goes through sums. Conditions: two bytes, twice sixteen bytes. -/
import Derived.Test.YtaeamdgifknieabAw
import Derived.Test.YtaeamdgifknieabAx
import Derived.Test.YtaeamdgifknieabWInvWords
import Derived.Test.YtaeamdgifknieabWMore
import Derived.Deep.QuietTactic
import Derived.BigQuiet
import Derived.Deep.DeepCutAuto
namespace Go.Proofs.Ytaeamdgifknieab.Ap
open Go.RowKit Ar Tw Ax Aw Go.Proofs.YtaeamdgifknieabW.PrintWords Go.Proofs.YtaeamdgifknieabW.PrintLast Go.Proofs.YtaeamdgifknieabW.PrintMore
theorem _root_.Go.Proofs.Ytaeamdgifknieab.Tw.Row.row_far {w : World} {b : Nat} {c : List Nat} (h : Row w b c) {g : Nat} (hg : b ≠ g) (cs : Array Value) : Row (w.setRow g cs) b c := (setRow_other w g b cs hg).trans h
theorem _root_.Go.Proofs.Ytaeamdgifknieab.Tw.Row.alloc_ {w : World} {b : Nat} {c : List Nat} (h : Row w b c) (o : Obj) : Row (w.alloc o) b c := (Below.heap_alloc w o b h.lt).trans h
def DD (g h k n : Nat) : Prop := g ≠ h ∧ g ≠ k ∧ h ≠ k ∧ g < n ∧ h < n ∧ k < n
theorem dd_more {g h k : Nat} {w w' : World} (d : g ≠ h ∧ g ≠ k ∧ h ≠ k ∧ g < w.heap.size ∧ h < w.heap.size ∧ k < w.heap.size) (hs : w.heap.size ≤ w'.heap.size) : g ≠ h ∧ g ≠ k ∧ h ≠ k ∧ g < w'.heap.size ∧ h < w'.heap.size ∧ k < w'.heap.size := by omega
theorem dd_same {g h k : Nat} {w w' : World} (d : g ≠ h ∧ g ≠ k ∧ h ≠ k ∧ g < w.heap.size ∧ h < w.heap.size ∧ k < w.heap.size) (hs : w'.heap.size = w.heap.size) : g ≠ h ∧ g ≠ k ∧ h ≠ k ∧ g < w'.heap.size ∧ h < w'.heap.size ∧ k < w'.heap.size := by omega
theorem dd_11 {g h k : Nat} {w : World} (d : g ≠ h ∧ g ≠ k ∧ h ≠ k ∧ g < w.heap.size ∧ h < w.heap.size ∧ k < w.heap.size) (o : Obj) : w.heap.size ≠ h ∧ w.heap.size ≠ k ∧ h ≠ k ∧ w.heap.size < (w.alloc o).heap.size ∧ h < (w.alloc o).heap.size ∧ k < (w.alloc o).heap.size := by
  have : (w.alloc o).heap.size = w.heap.size + 1 := by simp
  omega
theorem dd_12 {g h k : Nat} {w : World} (d : g ≠ h ∧ g ≠ k ∧ h ≠ k ∧ g < w.heap.size ∧ h < w.heap.size ∧ k < w.heap.size) (o : Obj) : g ≠ w.heap.size ∧ g ≠ k ∧ w.heap.size ≠ k ∧ g < (w.alloc o).heap.size ∧ w.heap.size < (w.alloc o).heap.size ∧ k < (w.alloc o).heap.size := by
  have : (w.alloc o).heap.size = w.heap.size + 1 := by simp
  omega
theorem dd_13 {g h k : Nat} {w : World} (d : g ≠ h ∧ g ≠ k ∧ h ≠ k ∧ g < w.heap.size ∧ h < w.heap.size ∧ k < w.heap.size) (o : Obj) : g ≠ h ∧ g ≠ w.heap.size ∧ h ≠ w.heap.size ∧ g < (w.alloc o).heap.size ∧ h < (w.alloc o).heap.size ∧ w.heap.size < (w.alloc o).heap.size := by
  have : (w.alloc o).heap.size = w.heap.size + 1 := by simp
  omega
theorem affine_any {a : Nat} (ha : a < 256) (w : World) : Calls Try.prog 7 #[.int .u8 (a : Int)] w fun e w' => e = .returned (.int .u8 ((aff a : Nat) : Int)) ∧ ∃ n, w' = w.drewN n :=
  (PFieldApart.field_Affine.calls (a : Int) _ w (aff_eq ha)).mono fun _ _ ⟨he, hd⟩ => ⟨he, hd.out⟩
section
variable {ops : Array Oper} {Q : Exit → Act → World → Prop}
theorem store_row_ {oi : Oper} {N : Option Tmp} {a : Act} {w : World} {K : Act → World → Prop} {x y : Operand} {g : Nat} {c d : List Nat} (hw : Region.wanted oi (yielded ops a.tmps) = true) (hN : oi.dst = N) (hop : oi.op = .store 23 x y)
    (hx : a.eval x = .pointer (some ⟨g, 0, none⟩)) (hy : a.eval y = .agg (cells c)) (hr : Row w g d) (hd : d.length = 16) (hl : c.length = 16) (h : K (a.put N undef) (w.setRow g (cells c))) : if Region.wanted oi (yielded ops a.tmps) = true then Oper.wp Try.prog oi a w K Q else K (a.put N undef) w := by
  rw [if_pos hw]
  subst hN
  exact wp_store_row 23 x y hop g (cells c) hx hy 23 (cells d) hr (by rw [cells_size hl]; exact info23) (by rw [cells_size hd, cells_size hl]) (all_one c) h
end
theorem three (w : World) (o : Obj) (s t : List Nat) (n : Nat) (z : Array Value) (hz : z = cells (List.replicate 16 0)) :
    Row (((((w.alloc o).alloc (.cells (cells s) 23)).alloc (.cells (cells t) 23)).alloc (.cells z 23)).drewN n) (w.heap.size + 1) s ∧ Row (((((w.alloc o).alloc (.cells (cells s) 23)).alloc (.cells (cells t) 23)).alloc (.cells z 23)).drewN n) (w.heap.size + 2) t ∧
    Row (((((w.alloc o).alloc (.cells (cells s) 23)).alloc (.cells (cells t) 23)).alloc (.cells z 23)).drewN n) (w.heap.size + 3) (List.replicate 16 0) ∧ Below w.heap.size w (((((w.alloc o).alloc (.cells (cells s) 23)).alloc (.cells (cells t) 23)).alloc (.cells z 23)).drewN n) := by
  subst hz
  have e1 : (w.alloc o).heap.size = w.heap.size + 1 := by simp
  have e2 : ((w.alloc o).alloc (.cells (cells s) 23)).heap.size = w.heap.size + 2 := by simp
  have e3 : (((w.alloc o).alloc (.cells (cells s) 23)).alloc (.cells (cells t) 23)).heap.size = w.heap.size + 3 := by simp
  refine ⟨?_, ?_, ?_, ?_⟩
  · have h := Row.laid (w.alloc o) s
    rw [e1] at h
    exact ((h.alloc_ _).alloc_ _).drewN n
  · have h := Row.laid ((w.alloc o).alloc (.cells (cells s) 23)) t
    rw [e2] at h
    exact (h.alloc_ _).drewN n
  · have h := Row.laid (((w.alloc o).alloc (.cells (cells s) 23)).alloc (.cells (cells t) 23)) (List.replicate 16 0)
    rw [e3] at h
    exact h.drewN n
  · exact below_drewN (((((Below.refl _ _).alloc (Nat.le_refl _) _).alloc (by rw [e1]; omega) _).alloc (by rw [e2]; omega) _).alloc (by rw [e3]; omega) _) n
def Apt.T7 : Bool × List (List Nat × List Nat) := (true, [([], []), ([0], [0]), ([], []), ([2, 1], [2]), ([], []), ([4, 3], [4]), ([], []), ([], []), ([], []), ([6, 1, 5, 0, 1, 6, 7, 8], [1, 6]), ([7, 3, 9, 0, 1, 2, 3, 6, 7, 8, 9], [3, 7]), ([8, 5, 10, 0, 1, 2, 3, 4, 5, 6, 7, 8, 9, 10], [5, 8])])
def Apt.B7 : List Nat := [0, 1, 0, 7, 0, 31, 0, 0, 0, 511, 1023, 2047]
theorem Apt.tab7 : rtab .any (opsOf Try.f3 7) = Apt.T7 := by kernel_rfl
theorem Apt.bits7 : waitsOk Apt.T7.2 Apt.B7 = true := by kernel_rfl
def Apt.T13 : Bool × List (List Nat × List Nat) := (true, [([], []), ([0], [0]), ([], []), ([2, 1], [2]), ([1, 3], [1, 3]), ([], []), ([], []), ([5, 6], [5, 6]), ([4, 7], [4, 7]), ([8, 3], [8]), ([9], [9]), ([9], [9]), ([10, 11, 9], [9, 10, 11]), ([9], [9]), ([9], [9]), ([13, 14, 9], [9, 13, 14]), ([12, 15, 9], [9, 12, 15]), ([9, 16], [9, 16]), ([17, 9], [17]), ([18, 18], [18]), ([18, 19], [18, 19]), ([20, 19, 0, 1, 2, 3, 4, 5, 6, 7, 8, 9, 10, 11, 12, 13, 14, 15, 16, 17, 18, 19, 20], [20])])
def Apt.B13 : List Nat := [0, 1, 0, 7, 15, 0, 0, 96, 255, 511, 1023, 1023, 4095, 1023, 1023, 25599, 65535, 131071, 262143, 524287, 1048575, 2097151]
theorem Apt.tab13 : rtab .any (opsOf Try.f3 13) = Apt.T13 := by kernel_rfl
theorem Apt.bits13 : waitsOk Apt.T13.2 Apt.B13 = true := by kernel_rfl
set_option linter.unusedVariables false
set_option linter.unusedSimpArgs false
set_option maxHeartbeats 8000000 in
set_option maxRecDepth 100000 in
theorem apart (va vb : Nat) (ha : va < 256) (hb : vb < 256) (s t : List Nat) (hs : Row16 s) (ht : Row16 t) (w : World) :
    Calls Try.prog 3 #[.agg #[.int .u8 (va : Int), .int .u8 (vb : Int)], .agg (cells s), .agg (cells t)] w fun e w' => e = .returned (.bool true) ∧ Below w.heap.size w w' := by
  have HA := Lib.hid ha
  have HB := Lib.hid hb
  have HS := Lib.hid hs
  have HT := Lib.hid ht
  have HU := Lib.hid (xrun_row hs ht 16)
  have H2S := Lib.hid (twice_row hs)
  have H2T := Lib.hid (twice_row ht)
  have H2U := Lib.hid (twice_row (xrun_row hs ht 16))
  have HTX := Lib.hid (fun i hi => twice_xor hs ht i hi)
  obtain ⟨u, hu1, hu2⟩ : ∃ u : Bool, (((aff va : Nat) : Int) == ((aff vb : Nat) : Int)) = u ∧ ((va : Int) == (vb : Int)) = u := by
    refine ⟨_, rfl, ?_⟩
    rw [Bool.eq_iff_iff, beq_iff_eq, beq_iff_eq]
    constructor
    · intro h
      have : va = vb := by omega
      rw [this]
    · intro h
      have := aff_inj ha hb (by omega)
      omega
  obtain ⟨v, hv1, hv2⟩ : ∃ v : Bool, decide (twice s = twice t) = v ∧ decide (s = t) = v := by
    refine ⟨_, rfl, ?_⟩
    rw [decide_eq_decide]
    exact ⟨fun h => by rw [h], fun h => twice_inj hs ht h⟩
  have HU1 := Lib.hid hu1
  have HU2 := Lib.hid hu2
  have HV1 := Lib.hid hv1
  have HV2 := Lib.hid hv2
  clear ha hb hs ht hu1 hu2 hv1 hv2
  go_enter Try.func3, Try.ntmps3
  go_wp2_with fail
  go_quiet (fail)
  go_wp2_with fail
  go_loopw [10] (fun i wr => ∃ k : Nat, k ≤ 16 ∧ i = .int .i64 k ∧ Row wr (w.heap.size + 1) s ∧ Row wr (w.heap.size + 2) t ∧ Row wr (w.heap.size + 3) (xrun s t k) ∧ Below w.heap.size w wr) (fun i _ => 16 - (intOf i).toNat)
  case atStart =>
    have h := fun n => three w (.cells #[.int .u8 (va : Int), .int .u8 (vb : Int)] 22) s t n _ zeros_cells.symm
    exact ⟨0, by omega, rfl, (h _).1, (h _).2.1, (h _).2.2.1, (h _).2.2.2⟩
  case round =>
    obtain ⟨k, hk, rfl, hrs, hrt, hru, hbl⟩ := hrel
    have KS := Lib.hid hrs
    have KT := Lib.hid hrt
    have KU := Lib.hid hru
    have KB := Lib.hid hbl
    have KR := Lib.hid (xrun_row HS.out HT.out k).1
    clear hrs hrt hru hbl
    by_cases hlt : k < 16
    · have hcs := KS.out.cell (i := k) (by have := HS.out.1; omega)
      have hct := KT.out.cell (i := k) (by have := HT.out.1; omega)
      have hcu := KU.out.cell (i := k) (by have := KR.out; omega)
      have hfu := KU.out.frozen k
      have hx := HS.out.get k
      have hy := HT.out.get k
      have HX := Lib.hid (show xrun s t (k + 1) = (xrun s t k).set k (s.getD k 0 ^^^ t.getD k 0) from rfl)
      generalize s.getD k 0 = x at *
      generalize t.getD k 0 = y at *
      have hxo := u8_xor_nat x y hx hy
      have hR1 : Row (wr.setCell ⟨w.heap.size + 3, k, none⟩ (.int .u8 ((x ^^^ y : Nat) : Int))) (w.heap.size + 3) (xrun s t (k + 1)) := by
        rw [HX.out]
        exact KU.out.set k (x ^^^ y)
      have KR1 := Lib.hid hR1
      clear hR1
      go_wp2_with fail
      go_region
      all_goals go_wp2_with fail
      all_goals go_roundw
      case rel => exact ⟨k + 1, by omega, by go_num, KS.out.far (p := ⟨w.heap.size + 3, k, none⟩) (by simp) _, KT.out.far (p := ⟨w.heap.size + 3, k, none⟩) (by simp) _, KR1.out, below_of (KB.out.setCell (p := ⟨w.heap.size + 3, k, none⟩) (Nat.le_add_right _ _) _) ⟨rfl, rfl, rfl, rfl⟩ ⟨rfl, rfl, rfl, rfl⟩⟩
      case measure => simp [intOf]; omega
    · have HE := Lib.hid (show k = 16 by omega)
      have hru : Row wr (w.heap.size + 3) (xrun s t 16) := by
        have h := KU.out
        rw [HE.out] at h
        exact h
      have hsz := hru.lt
      have RS := Aside0.mk (show Row wr.drew (w.heap.size + 1) s from KS.out)
      have RT := Aside0.mk (show Row wr.drew (w.heap.size + 2) t from KT.out)
      have RU := Aside0.mk (show Row wr.drew (w.heap.size + 3) (xrun s t 16) from hru)
      have BL := Aside0.mk (show Below w.heap.size w wr.drew from KB.out.drew)
      have DD := Aside0.mk (show w.heap.size ≠ w.heap.size + 1 ∧ w.heap.size ≠ w.heap.size + 2 ∧ w.heap.size + 1 ≠ w.heap.size + 2 ∧ w.heap.size < wr.drew.heap.size ∧ w.heap.size + 1 < wr.drew.heap.size ∧ w.heap.size + 2 < wr.drew.heap.size from by
        have : wr.drew.heap.size = wr.heap.size := rfl
        omega)
      clear hsz hru
      go_upto_region 7 with fail
      refine start_ (n := 12) (S := fun w' => True) (ds := []) #[false, false, false, false, false, false, false, false, false, false, false, false] (by kernel_rfl) rfl rfl trivial (fun hHeld => ?_)
      refine with_tabW Apt.tab7 Apt.bits7 (fun HT_ HW_ => ?_)
      refine inv_at [0, 1, 2, 3, 4, 5, 6, 7, 8, 9, 10, 11] (fun a0_ b a w' => ∃ (g11 : Nat) (g12 : Nat) (g13 : Nat) (m6_ : Value) (m7_ : Value) (m8_ : Value), a = putSel a0_ b [(0, 32, .agg (cells s)), (1, 33, .agg (cells (twice s))), (2, 34, .agg (cells t)), (3, 35, .agg (cells (twice t))), (4, 36, .agg (cells (xrun s t 16))), (5, 37, .agg (cells (twice (xrun s t 16)))), (6, 11, m6_), (7, 12, m7_), (8, 13, m8_)] ∧ (Row w' (w.heap.size + 1) s) ∧ (Row w' (w.heap.size + 2) t) ∧ (Row w' (w.heap.size + 3) (xrun s t 16)) ∧ (Below w.heap.size w w') ∧ (g11 ≠ g12 ∧ g11 ≠ g13 ∧ g12 ≠ g13 ∧ g11 < w'.heap.size ∧ g12 < w'.heap.size ∧ g13 < w'.heap.size) ∧ (b 6 = true → w.heap.size + 3 < g11) ∧ (b 6 = true → b 9 = false → Row w' g11 (List.replicate 16 0)) ∧ (b 9 = true → Row w' g11 (twice s)) ∧ (b 7 = true → w.heap.size + 3 < g12) ∧ (b 7 = true → b 10 = false → Row w' g12 (List.replicate 16 0)) ∧ (b 10 = true → Row w' g12 (twice t)) ∧ (b 8 = true → w.heap.size + 3 < g13) ∧ (b 8 = true → b 11 = false → Row w' g13 (List.replicate 16 0)) ∧ (b 11 = true → Row w' g13 (twice (xrun s t 16))) ∧ (b 6 = true → (m6_ : Value) = .pointer (some ⟨g11, 0, none⟩)) ∧ (b 7 = true → (m7_ : Value) = .pointer (some ⟨g12, 0, none⟩)) ∧ (b 8 = true → (m8_ : Value) = .pointer (some ⟨g13, 0, none⟩))) HT_.out HW_.out (by kernel_rfl) (by kernel_rfl) ?_ ?_ ?_
      · exact ⟨w.heap.size, w.heap.size + 1, w.heap.size + 2, .bool false, .bool false, .bool false, by simp only [putSel, Bool.false_eq_true, if_false], RS.out, RT.out, RU.out, BL.out, DD.out, fun h_ => absurd h_ (by decide), fun h_ => absurd h_ (by decide), fun h_ => absurd h_ (by decide), fun h_ => absurd h_ (by decide), fun h_ => absurd h_ (by decide), fun h_ => absurd h_ (by decide), fun h_ => absurd h_ (by decide), fun h_ => absurd h_ (by decide), fun h_ => absurd h_ (by decide), fun h_ => absurd h_ (by decide), fun h_ => absurd h_ (by decide), fun h_ => absurd h_ (by decide)⟩
      · skip
        clear BL DD RS RT RU
        refine steps_cons ?_ ?_
        · rintro b a w' ⟨g11, g12, g13, m6_, m7_, m8_, ha, Q_RS, Q_RT, Q_RU, Q_BL, Q_DD, Q_LL11, Q_ZZ11, Q_XX11, Q_LL12, Q_ZZ12, Q_XX12, Q_LL13, Q_ZZ13, Q_XX13, Q_X6_, Q_X7_, Q_X8_⟩ hb_ hon hoff
          refine ⟨_, rfl, fun K hK => ?_⟩
          have e4 : a.tmps[4]? = some (.pointer (some ⟨w.heap.size + 1, 0, none⟩)) := by rw [ha]; exact (putSel_off rfl).trans rfl
          replace ha := Aside0.mk ha
          have RS := Aside0.mk Q_RS
          have RT := Aside0.mk Q_RT
          have RU := Aside0.mk Q_RU
          have BL := Aside0.mk Q_BL
          have DD := Aside0.mk Q_DD
          refine load_row_ (g := (w.heap.size + 1)) (c := s) (by rfl) rfl rfl (eval_of e4) RS.out HS.out.1 ?_
          refine hK.out _ _ ⟨g11, g12, g13, m6_, m7_, m8_, (by rw [ha.out]; exact putSel_upk 0 hb_ rfl rfl rfl), RS.out, RT.out, RU.out, BL.out, DD.out, Q_LL11, fun h0_ h1_ => (Q_ZZ11 h0_ h1_), fun h0_ => absurd ((hoff 9 (by kernel_rfl)).symm.trans h0_) (by decide), Q_LL12, fun h0_ h1_ => (Q_ZZ12 h0_ h1_), fun h0_ => absurd ((hoff 10 (by kernel_rfl)).symm.trans h0_) (by decide), Q_LL13, fun h0_ h1_ => (Q_ZZ13 h0_ h1_), fun h0_ => absurd ((hoff 11 (by kernel_rfl)).symm.trans h0_) (by decide), Q_X6_, Q_X7_, Q_X8_⟩
        refine steps_cons ?_ ?_
        · rintro b a w' ⟨g11, g12, g13, m6_, m7_, m8_, ha, Q_RS, Q_RT, Q_RU, Q_BL, Q_DD, Q_LL11, Q_ZZ11, Q_XX11, Q_LL12, Q_ZZ12, Q_XX12, Q_LL13, Q_ZZ13, Q_XX13, Q_X6_, Q_X7_, Q_X8_⟩ hb_ hon hoff
          refine ⟨_, rfl, fun K hK => ?_⟩
          have e32 : a.tmps[32]? = some (.agg (cells s)) := by rw [ha]; exact putSel_on (e := (0, 32, .agg (cells s))) 0 rfl rfl (hon 0 (by kernel_rfl)) rfl
          replace ha := Aside0.mk ha
          have RS := Aside0.mk Q_RS
          have RT := Aside0.mk Q_RT
          have RU := Aside0.mk Q_RU
          have BL := Aside0.mk Q_BL
          have DD := Aside0.mk Q_DD
          refine goes_ Try.func6 (by kernel_rfl) rfl #[.agg (cells s)] (by rfl) rfl rfl (by first | (simp only [List.map_toArray, List.map_cons, List.map_nil, Act.eval, Array.getD_eq_getD_getElem?, Option.getD_some, e32]; done) | (simp only [List.map_toArray, List.map_cons, List.map_nil, Act.eval, Array.getD_eq_getD_getElem?, Option.getD_some, e32]; rfl)) ?_
          refine (twice_any s HS.out _).mono ?_
          rintro e_ wx ⟨rfl, hbx⟩
          refine ⟨_, rfl, ?_⟩
          refine hK.out _ _ ⟨g11, g12, g13, m6_, m7_, m8_, (by rw [ha.out]; exact putSel_upk 1 hb_ rfl rfl rfl), RS.out.below hbx RS.out.lt, RT.out.below hbx RT.out.lt, RU.out.below hbx RU.out.lt, BL.out.trans (hbx.mono BL.out.size), dd_more DD.out hbx.size, Q_LL11, fun h0_ h1_ => (Q_ZZ11 h0_ h1_).below hbx (Q_ZZ11 h0_ h1_).lt, fun h0_ => absurd ((hoff 9 (by kernel_rfl)).symm.trans h0_) (by decide), Q_LL12, fun h0_ h1_ => (Q_ZZ12 h0_ h1_).below hbx (Q_ZZ12 h0_ h1_).lt, fun h0_ => absurd ((hoff 10 (by kernel_rfl)).symm.trans h0_) (by decide), Q_LL13, fun h0_ h1_ => (Q_ZZ13 h0_ h1_).below hbx (Q_ZZ13 h0_ h1_).lt, fun h0_ => absurd ((hoff 11 (by kernel_rfl)).symm.trans h0_) (by decide), Q_X6_, Q_X7_, Q_X8_⟩
        refine steps_cons ?_ ?_
        · rintro b a w' ⟨g11, g12, g13, m6_, m7_, m8_, ha, Q_RS, Q_RT, Q_RU, Q_BL, Q_DD, Q_LL11, Q_ZZ11, Q_XX11, Q_LL12, Q_ZZ12, Q_XX12, Q_LL13, Q_ZZ13, Q_XX13, Q_X6_, Q_X7_, Q_X8_⟩ hb_ hon hoff
          refine ⟨_, rfl, fun K hK => ?_⟩
          have e5 : a.tmps[5]? = some (.pointer (some ⟨w.heap.size + 2, 0, none⟩)) := by rw [ha]; exact (putSel_off rfl).trans rfl
          replace ha := Aside0.mk ha
          have RS := Aside0.mk Q_RS
          have RT := Aside0.mk Q_RT
          have RU := Aside0.mk Q_RU
          have BL := Aside0.mk Q_BL
          have DD := Aside0.mk Q_DD
          refine load_row_ (g := (w.heap.size + 2)) (c := t) (by rfl) rfl rfl (eval_of e5) RT.out HT.out.1 ?_
          refine hK.out _ _ ⟨g11, g12, g13, m6_, m7_, m8_, (by rw [ha.out]; exact putSel_upk 2 hb_ rfl rfl rfl), RS.out, RT.out, RU.out, BL.out, DD.out, Q_LL11, fun h0_ h1_ => (Q_ZZ11 h0_ h1_), fun h0_ => absurd ((hoff 9 (by kernel_rfl)).symm.trans h0_) (by decide), Q_LL12, fun h0_ h1_ => (Q_ZZ12 h0_ h1_), fun h0_ => absurd ((hoff 10 (by kernel_rfl)).symm.trans h0_) (by decide), Q_LL13, fun h0_ h1_ => (Q_ZZ13 h0_ h1_), fun h0_ => absurd ((hoff 11 (by kernel_rfl)).symm.trans h0_) (by decide), Q_X6_, Q_X7_, Q_X8_⟩
        refine steps_cons ?_ ?_
        · rintro b a w' ⟨g11, g12, g13, m6_, m7_, m8_, ha, Q_RS, Q_RT, Q_RU, Q_BL, Q_DD, Q_LL11, Q_ZZ11, Q_XX11, Q_LL12, Q_ZZ12, Q_XX12, Q_LL13, Q_ZZ13, Q_XX13, Q_X6_, Q_X7_, Q_X8_⟩ hb_ hon hoff
          refine ⟨_, rfl, fun K hK => ?_⟩
          have e34 : a.tmps[34]? = some (.agg (cells t)) := by rw [ha]; exact putSel_on (e := (2, 34, .agg (cells t))) 2 rfl rfl (hon 2 (by kernel_rfl)) rfl
          replace ha := Aside0.mk ha
          have RS := Aside0.mk Q_RS
          have RT := Aside0.mk Q_RT
          have RU := Aside0.mk Q_RU
          have BL := Aside0.mk Q_BL
          have DD := Aside0.mk Q_DD
          refine goes_ Try.func6 (by kernel_rfl) rfl #[.agg (cells t)] (by rfl) rfl rfl (by first | (simp only [List.map_toArray, List.map_cons, List.map_nil, Act.eval, Array.getD_eq_getD_getElem?, Option.getD_some, e34]; done) | (simp only [List.map_toArray, List.map_cons, List.map_nil, Act.eval, Array.getD_eq_getD_getElem?, Option.getD_some, e34]; rfl)) ?_
          refine (twice_any t HT.out _).mono ?_
          rintro e_ wx ⟨rfl, hbx⟩
          refine ⟨_, rfl, ?_⟩
          refine hK.out _ _ ⟨g11, g12, g13, m6_, m7_, m8_, (by rw [ha.out]; exact putSel_upk 3 hb_ rfl rfl rfl), RS.out.below hbx RS.out.lt, RT.out.below hbx RT.out.lt, RU.out.below hbx RU.out.lt, BL.out.trans (hbx.mono BL.out.size), dd_more DD.out hbx.size, Q_LL11, fun h0_ h1_ => (Q_ZZ11 h0_ h1_).below hbx (Q_ZZ11 h0_ h1_).lt, fun h0_ => absurd ((hoff 9 (by kernel_rfl)).symm.trans h0_) (by decide), Q_LL12, fun h0_ h1_ => (Q_ZZ12 h0_ h1_).below hbx (Q_ZZ12 h0_ h1_).lt, fun h0_ => absurd ((hoff 10 (by kernel_rfl)).symm.trans h0_) (by decide), Q_LL13, fun h0_ h1_ => (Q_ZZ13 h0_ h1_).below hbx (Q_ZZ13 h0_ h1_).lt, fun h0_ => absurd ((hoff 11 (by kernel_rfl)).symm.trans h0_) (by decide), Q_X6_, Q_X7_, Q_X8_⟩
        refine steps_cons ?_ ?_
        · rintro b a w' ⟨g11, g12, g13, m6_, m7_, m8_, ha, Q_RS, Q_RT, Q_RU, Q_BL, Q_DD, Q_LL11, Q_ZZ11, Q_XX11, Q_LL12, Q_ZZ12, Q_XX12, Q_LL13, Q_ZZ13, Q_XX13, Q_X6_, Q_X7_, Q_X8_⟩ hb_ hon hoff
          refine ⟨_, rfl, fun K hK => ?_⟩
          have e9 : a.tmps[9]? = some (.pointer (some ⟨w.heap.size + 3, 0, none⟩)) := by rw [ha]; exact (putSel_off rfl).trans rfl
          replace ha := Aside0.mk ha
          have RS := Aside0.mk Q_RS
          have RT := Aside0.mk Q_RT
          have RU := Aside0.mk Q_RU
          have BL := Aside0.mk Q_BL
          have DD := Aside0.mk Q_DD
          refine load_row_ (g := (w.heap.size + 3)) (c := (xrun s t 16)) (by rfl) rfl rfl (eval_of e9) RU.out HU.out.1 ?_
          refine hK.out _ _ ⟨g11, g12, g13, m6_, m7_, m8_, (by rw [ha.out]; exact putSel_upk 4 hb_ rfl rfl rfl), RS.out, RT.out, RU.out, BL.out, DD.out, Q_LL11, fun h0_ h1_ => (Q_ZZ11 h0_ h1_), fun h0_ => absurd ((hoff 9 (by kernel_rfl)).symm.trans h0_) (by decide), Q_LL12, fun h0_ h1_ => (Q_ZZ12 h0_ h1_), fun h0_ => absurd ((hoff 10 (by kernel_rfl)).symm.trans h0_) (by decide), Q_LL13, fun h0_ h1_ => (Q_ZZ13 h0_ h1_), fun h0_ => absurd ((hoff 11 (by kernel_rfl)).symm.trans h0_) (by decide), Q_X6_, Q_X7_, Q_X8_⟩
        refine steps_cons ?_ ?_
        · rintro b a w' ⟨g11, g12, g13, m6_, m7_, m8_, ha, Q_RS, Q_RT, Q_RU, Q_BL, Q_DD, Q_LL11, Q_ZZ11, Q_XX11, Q_LL12, Q_ZZ12, Q_XX12, Q_LL13, Q_ZZ13, Q_XX13, Q_X6_, Q_X7_, Q_X8_⟩ hb_ hon hoff
          refine ⟨_, rfl, fun K hK => ?_⟩
          have e36 : a.tmps[36]? = some (.agg (cells (xrun s t 16))) := by rw [ha]; exact putSel_on (e := (4, 36, .agg (cells (xrun s t 16)))) 4 rfl rfl (hon 4 (by kernel_rfl)) rfl
          replace ha := Aside0.mk ha
          have RS := Aside0.mk Q_RS
          have RT := Aside0.mk Q_RT
          have RU := Aside0.mk Q_RU
          have BL := Aside0.mk Q_BL
          have DD := Aside0.mk Q_DD
          refine goes_ Try.func6 (by kernel_rfl) rfl #[.agg (cells (xrun s t 16))] (by rfl) rfl rfl (by first | (simp only [List.map_toArray, List.map_cons, List.map_nil, Act.eval, Array.getD_eq_getD_getElem?, Option.getD_some, e36]; done) | (simp only [List.map_toArray, List.map_cons, List.map_nil, Act.eval, Array.getD_eq_getD_getElem?, Option.getD_some, e36]; rfl)) ?_
          refine (twice_any (xrun s t 16) HU.out _).mono ?_
          rintro e_ wx ⟨rfl, hbx⟩
          refine ⟨_, rfl, ?_⟩
          refine hK.out _ _ ⟨g11, g12, g13, m6_, m7_, m8_, (by rw [ha.out]; exact putSel_upk 5 hb_ rfl rfl rfl), RS.out.below hbx RS.out.lt, RT.out.below hbx RT.out.lt, RU.out.below hbx RU.out.lt, BL.out.trans (hbx.mono BL.out.size), dd_more DD.out hbx.size, Q_LL11, fun h0_ h1_ => (Q_ZZ11 h0_ h1_).below hbx (Q_ZZ11 h0_ h1_).lt, fun h0_ => absurd ((hoff 9 (by kernel_rfl)).symm.trans h0_) (by decide), Q_LL12, fun h0_ h1_ => (Q_ZZ12 h0_ h1_).below hbx (Q_ZZ12 h0_ h1_).lt, fun h0_ => absurd ((hoff 10 (by kernel_rfl)).symm.trans h0_) (by decide), Q_LL13, fun h0_ h1_ => (Q_ZZ13 h0_ h1_).below hbx (Q_ZZ13 h0_ h1_).lt, fun h0_ => absurd ((hoff 11 (by kernel_rfl)).symm.trans h0_) (by decide), Q_X6_, Q_X7_, Q_X8_⟩
        refine steps_cons ?_ ?_
        · rintro b a w' ⟨g11, g12, g13, m6_, m7_, m8_, ha, Q_RS, Q_RT, Q_RU, Q_BL, Q_DD, Q_LL11, Q_ZZ11, Q_XX11, Q_LL12, Q_ZZ12, Q_XX12, Q_LL13, Q_ZZ13, Q_XX13, Q_X6_, Q_X7_, Q_X8_⟩ hb_ hon hoff
          refine ⟨_, rfl, fun K hK => ?_⟩
          replace ha := Aside0.mk ha
          have RS := Aside0.mk Q_RS
          have RT := Aside0.mk Q_RT
          have RU := Aside0.mk Q_RU
          have BL := Aside0.mk Q_BL
          have DD := Aside0.mk Q_DD
          refine value_ (w1 := w'.alloc (.cells (cells (List.replicate 16 0)) 23)) (v := .pointer (some ⟨w'.heap.size, 0, none⟩)) (by rfl) rfl ?_ ?_
          · rw [zeros_cells]
            go_simp
            try rfl
          refine hK.out _ _ ⟨w'.heap.size, g12, g13, (.pointer (some ⟨w'.heap.size, 0, none⟩)), m7_, m8_, (by rw [ha.out]; exact putSel_upk 6 hb_ rfl rfl rfl), RS.out.alloc_ _, RT.out.alloc_ _, RU.out.alloc_ _, BL.out.alloc BL.out.size _, dd_11 DD.out _, fun _ => RU.out.lt, fun _ _ => Row.laid w' _, fun h0_ => absurd ((hoff 9 (by kernel_rfl)).symm.trans h0_) (by decide), Q_LL12, fun h0_ h1_ => (Q_ZZ12 h0_ h1_).alloc_ _, fun h0_ => absurd ((hoff 10 (by kernel_rfl)).symm.trans h0_) (by decide), Q_LL13, fun h0_ h1_ => (Q_ZZ13 h0_ h1_).alloc_ _, fun h0_ => absurd ((hoff 11 (by kernel_rfl)).symm.trans h0_) (by decide), fun _ => rfl, Q_X7_, Q_X8_⟩
        refine steps_cons ?_ ?_
        · rintro b a w' ⟨g11, g12, g13, m6_, m7_, m8_, ha, Q_RS, Q_RT, Q_RU, Q_BL, Q_DD, Q_LL11, Q_ZZ11, Q_XX11, Q_LL12, Q_ZZ12, Q_XX12, Q_LL13, Q_ZZ13, Q_XX13, Q_X6_, Q_X7_, Q_X8_⟩ hb_ hon hoff
          refine ⟨_, rfl, fun K hK => ?_⟩
          replace ha := Aside0.mk ha
          have RS := Aside0.mk Q_RS
          have RT := Aside0.mk Q_RT
          have RU := Aside0.mk Q_RU
          have BL := Aside0.mk Q_BL
          have DD := Aside0.mk Q_DD
          refine value_ (w1 := w'.alloc (.cells (cells (List.replicate 16 0)) 23)) (v := .pointer (some ⟨w'.heap.size, 0, none⟩)) (by rfl) rfl ?_ ?_
          · rw [zeros_cells]
            go_simp
            try rfl
          refine hK.out _ _ ⟨g11, w'.heap.size, g13, m6_, (.pointer (some ⟨w'.heap.size, 0, none⟩)), m8_, (by rw [ha.out]; exact putSel_upk 7 hb_ rfl rfl rfl), RS.out.alloc_ _, RT.out.alloc_ _, RU.out.alloc_ _, BL.out.alloc BL.out.size _, dd_12 DD.out _, Q_LL11, fun h0_ h1_ => (Q_ZZ11 h0_ h1_).alloc_ _, fun h0_ => absurd ((hoff 9 (by kernel_rfl)).symm.trans h0_) (by decide), fun _ => RU.out.lt, fun _ _ => Row.laid w' _, fun h0_ => absurd ((hoff 10 (by kernel_rfl)).symm.trans h0_) (by decide), Q_LL13, fun h0_ h1_ => (Q_ZZ13 h0_ h1_).alloc_ _, fun h0_ => absurd ((hoff 11 (by kernel_rfl)).symm.trans h0_) (by decide), Q_X6_, fun _ => rfl, Q_X8_⟩
        refine steps_cons ?_ ?_
        · rintro b a w' ⟨g11, g12, g13, m6_, m7_, m8_, ha, Q_RS, Q_RT, Q_RU, Q_BL, Q_DD, Q_LL11, Q_ZZ11, Q_XX11, Q_LL12, Q_ZZ12, Q_XX12, Q_LL13, Q_ZZ13, Q_XX13, Q_X6_, Q_X7_, Q_X8_⟩ hb_ hon hoff
          refine ⟨_, rfl, fun K hK => ?_⟩
          replace ha := Aside0.mk ha
          have RS := Aside0.mk Q_RS
          have RT := Aside0.mk Q_RT
          have RU := Aside0.mk Q_RU
          have BL := Aside0.mk Q_BL
          have DD := Aside0.mk Q_DD
          refine value_ (w1 := w'.alloc (.cells (cells (List.replicate 16 0)) 23)) (v := .pointer (some ⟨w'.heap.size, 0, none⟩)) (by rfl) rfl ?_ ?_
          · rw [zeros_cells]
            go_simp
            try rfl
          refine hK.out _ _ ⟨g11, g12, w'.heap.size, m6_, m7_, (.pointer (some ⟨w'.heap.size, 0, none⟩)), (by rw [ha.out]; exact putSel_upk 8 hb_ rfl rfl rfl), RS.out.alloc_ _, RT.out.alloc_ _, RU.out.alloc_ _, BL.out.alloc BL.out.size _, dd_13 DD.out _, Q_LL11, fun h0_ h1_ => (Q_ZZ11 h0_ h1_).alloc_ _, fun h0_ => absurd ((hoff 9 (by kernel_rfl)).symm.trans h0_) (by decide), Q_LL12, fun h0_ h1_ => (Q_ZZ12 h0_ h1_).alloc_ _, fun h0_ => absurd ((hoff 10 (by kernel_rfl)).symm.trans h0_) (by decide), fun _ => RU.out.lt, fun _ _ => Row.laid w' _, fun h0_ => absurd ((hoff 11 (by kernel_rfl)).symm.trans h0_) (by decide), Q_X6_, Q_X7_, fun _ => rfl⟩
        refine steps_cons ?_ ?_
        · rintro b a w' ⟨g11, g12, g13, m6_, m7_, m8_, ha, Q_RS, Q_RT, Q_RU, Q_BL, Q_DD, Q_LL11, Q_ZZ11, Q_XX11, Q_LL12, Q_ZZ12, Q_XX12, Q_LL13, Q_ZZ13, Q_XX13, Q_X6_, Q_X7_, Q_X8_⟩ hb_ hon hoff
          refine ⟨_, rfl, fun K hK => ?_⟩
          have e11 : a.tmps[11]? = some (m6_) := by rw [ha]; exact putSel_on (e := (6, 11, m6_)) 6 rfl rfl (hon 6 (by kernel_rfl)) rfl
          rw [Q_X6_ (hon 6 (by kernel_rfl))] at e11
          have e33 : a.tmps[33]? = some (.agg (cells (twice s))) := by rw [ha]; exact putSel_on (e := (1, 33, .agg (cells (twice s)))) 1 rfl rfl (hon 1 (by kernel_rfl)) rfl
          replace ha := Aside0.mk ha
          have RS := Aside0.mk Q_RS
          have RT := Aside0.mk Q_RT
          have RU := Aside0.mk Q_RU
          have BL := Aside0.mk Q_BL
          have DD := Aside0.mk Q_DD
          have LL11 := Aside0.mk (Q_LL11 (hon 6 (by kernel_rfl)))
          have ZZ11 := Aside0.mk (Q_ZZ11 (hon 6 (by kernel_rfl)) hb_)
          have LL12 := Aside0.mk (Q_LL12 (hon 7 (by kernel_rfl)))
          have ZZ12 := Aside0.mk (Q_ZZ12 (hon 7 (by kernel_rfl)) (hoff 10 (by kernel_rfl)))
          have LL13 := Aside0.mk (Q_LL13 (hon 8 (by kernel_rfl)))
          have ZZ13 := Aside0.mk (Q_ZZ13 (hon 8 (by kernel_rfl)) (hoff 11 (by kernel_rfl)))
          refine store_row_ (g := g11) (c := (twice s)) (by rfl) rfl rfl (eval_of e11) (eval_of e33) ZZ11.out (by simp) H2S.out.1 ?_
          refine hK.out _ _ ⟨g11, g12, g13, m6_, m7_, m8_, (by rw [ha.out]; exact putSel_none (v := undef) rfl), RS.out.row_far (by have := LL11.out; omega) _, RT.out.row_far (by have := LL11.out; omega) _, RU.out.row_far (by have := LL11.out; omega) _, below_row BL.out (by have := LL11.out; omega) _, dd_same DD.out (size_setRow _ _ _), Q_LL11, fun _ h1_ => absurd ((up_self b 9).symm.trans h1_) (by decide), fun _ => ZZ11.out.put _, Q_LL12, fun _ _ => ZZ12.out.row_far (by have := DD.out; omega) _, fun h0_ => absurd ((hoff 10 (by kernel_rfl)).symm.trans h0_) (by decide), Q_LL13, fun _ _ => ZZ13.out.row_far (by have := DD.out; omega) _, fun h0_ => absurd ((hoff 11 (by kernel_rfl)).symm.trans h0_) (by decide), Q_X6_, Q_X7_, Q_X8_⟩
        refine steps_cons ?_ ?_
        · rintro b a w' ⟨g11, g12, g13, m6_, m7_, m8_, ha, Q_RS, Q_RT, Q_RU, Q_BL, Q_DD, Q_LL11, Q_ZZ11, Q_XX11, Q_LL12, Q_ZZ12, Q_XX12, Q_LL13, Q_ZZ13, Q_XX13, Q_X6_, Q_X7_, Q_X8_⟩ hb_ hon hoff
          refine ⟨_, rfl, fun K hK => ?_⟩
          have e12 : a.tmps[12]? = some (m7_) := by rw [ha]; exact putSel_on (e := (7, 12, m7_)) 7 rfl rfl (hon 7 (by kernel_rfl)) rfl
          rw [Q_X7_ (hon 7 (by kernel_rfl))] at e12
          have e35 : a.tmps[35]? = some (.agg (cells (twice t))) := by rw [ha]; exact putSel_on (e := (3, 35, .agg (cells (twice t)))) 3 rfl rfl (hon 3 (by kernel_rfl)) rfl
          replace ha := Aside0.mk ha
          have RS := Aside0.mk Q_RS
          have RT := Aside0.mk Q_RT
          have RU := Aside0.mk Q_RU
          have BL := Aside0.mk Q_BL
          have DD := Aside0.mk Q_DD
          have LL11 := Aside0.mk (Q_LL11 (hon 6 (by kernel_rfl)))
          have XX11 := Aside0.mk (Q_XX11 (hon 9 (by kernel_rfl)))
          have LL12 := Aside0.mk (Q_LL12 (hon 7 (by kernel_rfl)))
          have ZZ12 := Aside0.mk (Q_ZZ12 (hon 7 (by kernel_rfl)) hb_)
          have LL13 := Aside0.mk (Q_LL13 (hon 8 (by kernel_rfl)))
          have ZZ13 := Aside0.mk (Q_ZZ13 (hon 8 (by kernel_rfl)) (hoff 11 (by kernel_rfl)))
          refine store_row_ (g := g12) (c := (twice t)) (by rfl) rfl rfl (eval_of e12) (eval_of e35) ZZ12.out (by simp) H2T.out.1 ?_
          refine hK.out _ _ ⟨g11, g12, g13, m6_, m7_, m8_, (by rw [ha.out]; exact putSel_none (v := undef) rfl), RS.out.row_far (by have := LL12.out; omega) _, RT.out.row_far (by have := LL12.out; omega) _, RU.out.row_far (by have := LL12.out; omega) _, below_row BL.out (by have := LL12.out; omega) _, dd_same DD.out (size_setRow _ _ _), Q_LL11, fun _ h1_ => absurd ((hon 9 (by kernel_rfl)).symm.trans h1_) (by decide), fun _ => XX11.out.row_far (by have := DD.out; omega) _, Q_LL12, fun _ h1_ => absurd ((up_self b 10).symm.trans h1_) (by decide), fun _ => ZZ12.out.put _, Q_LL13, fun _ _ => ZZ13.out.row_far (by have := DD.out; omega) _, fun h0_ => absurd ((hoff 11 (by kernel_rfl)).symm.trans h0_) (by decide), Q_X6_, Q_X7_, Q_X8_⟩
        refine steps_cons ?_ ?_
        · rintro b a w' ⟨g11, g12, g13, m6_, m7_, m8_, ha, Q_RS, Q_RT, Q_RU, Q_BL, Q_DD, Q_LL11, Q_ZZ11, Q_XX11, Q_LL12, Q_ZZ12, Q_XX12, Q_LL13, Q_ZZ13, Q_XX13, Q_X6_, Q_X7_, Q_X8_⟩ hb_ hon hoff
          refine ⟨_, rfl, fun K hK => ?_⟩
          have e13 : a.tmps[13]? = some (m8_) := by rw [ha]; exact putSel_on (e := (8, 13, m8_)) 8 rfl rfl (hon 8 (by kernel_rfl)) rfl
          rw [Q_X8_ (hon 8 (by kernel_rfl))] at e13
          have e37 : a.tmps[37]? = some (.agg (cells (twice (xrun s t 16)))) := by rw [ha]; exact putSel_on (e := (5, 37, .agg (cells (twice (xrun s t 16))))) 5 rfl rfl (hon 5 (by kernel_rfl)) rfl
          replace ha := Aside0.mk ha
          have RS := Aside0.mk Q_RS
          have RT := Aside0.mk Q_RT
          have RU := Aside0.mk Q_RU
          have BL := Aside0.mk Q_BL
          have DD := Aside0.mk Q_DD
          have LL11 := Aside0.mk (Q_LL11 (hon 6 (by kernel_rfl)))
          have XX11 := Aside0.mk (Q_XX11 (hon 9 (by kernel_rfl)))
          have LL12 := Aside0.mk (Q_LL12 (hon 7 (by kernel_rfl)))
          have XX12 := Aside0.mk (Q_XX12 (hon 10 (by kernel_rfl)))
          have LL13 := Aside0.mk (Q_LL13 (hon 8 (by kernel_rfl)))
          have ZZ13 := Aside0.mk (Q_ZZ13 (hon 8 (by kernel_rfl)) hb_)
          refine store_row_ (g := g13) (c := (twice (xrun s t 16))) (by rfl) rfl rfl (eval_of e13) (eval_of e37) ZZ13.out (by simp) H2U.out.1 ?_
          refine hK.out _ _ ⟨g11, g12, g13, m6_, m7_, m8_, (by rw [ha.out]; exact putSel_none (v := undef) rfl), RS.out.row_far (by have := LL13.out; omega) _, RT.out.row_far (by have := LL13.out; omega) _, RU.out.row_far (by have := LL13.out; omega) _, below_row BL.out (by have := LL13.out; omega) _, dd_same DD.out (size_setRow _ _ _), Q_LL11, fun _ h1_ => absurd ((hon 9 (by kernel_rfl)).symm.trans h1_) (by decide), fun _ => XX11.out.row_far (by have := DD.out; omega) _, Q_LL12, fun _ h1_ => absurd ((hon 10 (by kernel_rfl)).symm.trans h1_) (by decide), fun _ => XX12.out.row_far (by have := DD.out; omega) _, Q_LL13, fun _ h1_ => absurd ((up_self b 11).symm.trans h1_) (by decide), fun _ => ZZ13.out.put _, Q_X6_, Q_X7_, Q_X8_⟩
        exact steps_nil
      · rintro b a w' hall ⟨g11, g12, g13, m6_, m7_, m8_, ha, Q_RS, Q_RT, Q_RU, Q_BL, Q_DD, Q_LL11, Q_ZZ11, Q_XX11, Q_LL12, Q_ZZ12, Q_XX12, Q_LL13, Q_ZZ13, Q_XX13, Q_X6_, Q_X7_, Q_X8_⟩
        clear BL DD RS RT RU
        have hb0_ := hall 0 (by kernel_rfl)
        have hb1_ := hall 1 (by kernel_rfl)
        have hb2_ := hall 2 (by kernel_rfl)
        have hb3_ := hall 3 (by kernel_rfl)
        have hb4_ := hall 4 (by kernel_rfl)
        have hb5_ := hall 5 (by kernel_rfl)
        have hb6_ := hall 6 (by kernel_rfl)
        have hb7_ := hall 7 (by kernel_rfl)
        have hb8_ := hall 8 (by kernel_rfl)
        have hb9_ := hall 9 (by kernel_rfl)
        have hb10_ := hall 10 (by kernel_rfl)
        have hb11_ := hall 11 (by kernel_rfl)
        subst ha
        obtain rfl := Q_X6_ hb6_
        obtain rfl := Q_X7_ hb7_
        obtain rfl := Q_X8_ hb8_
        simp only [putSel, hb0_, hb1_, hb2_, hb3_, hb4_, hb5_, hb6_, hb7_, hb8_, hb9_, hb10_, hb11_, if_true, Act.put, List.setIfInBounds_toArray, List.set_cons_zero, List.set_cons_succ]
        have RS := Aside0.mk Q_RS
        clear Q_RS
        have RT := Aside0.mk Q_RT
        clear Q_RT
        have RU := Aside0.mk Q_RU
        clear Q_RU
        have BL := Aside0.mk Q_BL
        clear Q_BL
        have DD := Aside0.mk Q_DD
        clear Q_DD
        have LL11 := Aside0.mk (Q_LL11 hb6_)
        clear Q_LL11
        clear Q_ZZ11
        have XX11 := Aside0.mk (Q_XX11 hb9_)
        clear Q_XX11
        have LL12 := Aside0.mk (Q_LL12 hb7_)
        clear Q_LL12
        clear Q_ZZ12
        have XX12 := Aside0.mk (Q_XX12 hb10_)
        clear Q_XX12
        have LL13 := Aside0.mk (Q_LL13 hb8_)
        clear Q_LL13
        clear Q_ZZ13
        have XX13 := Aside0.mk (Q_XX13 hb11_)
        clear Q_XX13
        clear hall hb0_ hb1_ hb2_ hb3_ hb4_ hb5_ hb6_ hb7_ hb8_ hb9_ hb10_ hb11_
        go_wp2_with fail
        go_loopw [14] (fun i wq => ∃ k nd : Nat, k ≤ 16 ∧ i = .int .i64 k ∧ wq = w'.drewN nd) (fun i _ => 16 - (intOf i).toNat)
        case atStart => exact ⟨0, 0, by omega, rfl, rfl⟩
        case round =>
          obtain ⟨k, nd, hk, rfl, rfl⟩ := hrel
          by_cases hlt2 : k < 16
          · have hcx := XX11.out.cell (i := k) (by have := H2S.out.1; omega)
            have hcy := XX12.out.cell (i := k) (by have := H2T.out.1; omega)
            have hcz := XX13.out.cell (i := k) (by have := H2U.out.1; omega)
            rw [HTX.out k hlt2] at hcz
            have hx := H2S.out.get k
            have hy := H2T.out.get k
            generalize (twice s).getD k 0 = x at *
            generalize (twice t).getD k 0 = y at *
            have hxo := u8_xor_nat x y hx hy
            clear hx hy
            go_wp2_with fail
            go_quiet (fail)
            go_wp2_with fail
            go_roundw
            case rel => exact ⟨k + 1, _, by omega, by go_num, rfl⟩
            case measure => simp [intOf]; omega
          · go_upto_region 13 with fail
            have RSa := RS.out
            have RTa := RT.out
            have X1a := XX11.out
            have X2a := XX12.out
            have BLa := BL.out
            clear RS RT XX11 XX12 BL RU DD XX13
            have RS := Aside0.mk (show Row (w'.drewN nd).drew (w.heap.size + 1) s from RSa)
            have RT := Aside0.mk (show Row (w'.drewN nd).drew (w.heap.size + 2) t from RTa)
            have XX11 := Aside0.mk (show Row (w'.drewN nd).drew g11 (twice s) from X1a)
            have XX12 := Aside0.mk (show Row (w'.drewN nd).drew g12 (twice t) from X2a)
            have BL := Aside0.mk (show Below w.heap.size w (w'.drewN nd).drew from (below_drewN BLa nd).drew)
            clear RSa RTa X1a X2a BLa
            change Code.wp _ _ _ _ (w'.drewN nd)
            refine start_ (n := 22) (S := fun w' => True) (ds := []) #[false, false, false, false, false, false, false, false, false, false, false, false, false, false, false, false, false, false, false, false, false, false] (by kernel_rfl) rfl rfl trivial (fun hHeld => ?_)
            refine with_tabW Apt.tab13 Apt.bits13 (fun HT_ HW_ => ?_)
            refine inv_at [0, 1, 2, 3, 4, 5, 6, 7, 8, 9, 10, 11, 12, 13, 14, 15, 16, 17, 18, 19, 20, 21] (fun a0_ b a w' => a = putSel a0_ b [(0, 53, .int .u8 (va : Int)), (1, 54, .int .u8 ((aff va : Nat) : Int)), (2, 55, .int .u8 (vb : Int)), (3, 56, .int .u8 ((aff vb : Nat) : Int)), (4, 57, .bool u), (5, 58, .int .u8 (va : Int)), (6, 59, .int .u8 (vb : Int)), (7, 60, .bool u), (8, 61, .bool true), (9, 62, .bool true), (10, 63, .agg (cells (twice s))), (11, 64, .agg (cells (twice t))), (12, 65, .bool v), (13, 66, .agg (cells s)), (14, 67, .agg (cells t)), (15, 68, .bool v), (16, 69, .bool true), (17, 70, .bool true), (18, 71, .bool true), (19, 72, .bool true), (20, 73, .bool true), (21, 6, .bool true)] ∧ (Row w' (w.heap.size + 1) s) ∧ (Row w' (w.heap.size + 2) t) ∧ (Row w' g11 (twice s)) ∧ (Row w' g12 (twice t)) ∧ (Below w.heap.size w w')) HT_.out HW_.out (by kernel_rfl) (by kernel_rfl) ?_ ?_ ?_
            · exact ⟨by simp only [putSel, Bool.false_eq_true, if_false], RS.out, RT.out, XX11.out, XX12.out, BL.out⟩
            · skip
              clear BL RS RT XX11 XX12
              refine steps_cons ?_ ?_
              · rintro b a w' ⟨ha, Q_RS, Q_RT, Q_XX11, Q_XX12, Q_BL⟩ hb_ hon hoff
                refine ⟨_, rfl, fun K hK => ?_⟩
                have e7 : a.tmps[7]? = some (.int .u8 (va : Int)) := by rw [ha]; exact (putSel_off rfl).trans rfl
                replace ha := Aside0.mk ha
                have RS := Aside0.mk Q_RS
                have RT := Aside0.mk Q_RT
                have XX11 := Aside0.mk Q_XX11
                have XX12 := Aside0.mk Q_XX12
                have BL := Aside0.mk Q_BL
                refine value_ (w1 := w') (v := .int .u8 (va : Int)) (by rfl) rfl ?_ ?_
                · go_simp
                  (try simp only [i64_w])
                  try rfl
                refine hK.out _ _ ⟨(by rw [ha.out]; exact putSel_upk 0 hb_ rfl rfl rfl), Q_RS, Q_RT, Q_XX11, Q_XX12, Q_BL⟩
              refine steps_cons ?_ ?_
              · rintro b a w' ⟨ha, Q_RS, Q_RT, Q_XX11, Q_XX12, Q_BL⟩ hb_ hon hoff
                refine ⟨_, rfl, fun K hK => ?_⟩
                have e53 : a.tmps[53]? = some (.int .u8 (va : Int)) := by rw [ha]; exact putSel_on (e := (0, 53, .int .u8 (va : Int))) 0 rfl rfl (hon 0 (by kernel_rfl)) rfl
                replace ha := Aside0.mk ha
                have RS := Aside0.mk Q_RS
                have RT := Aside0.mk Q_RT
                have XX11 := Aside0.mk Q_XX11
                have XX12 := Aside0.mk Q_XX12
                have BL := Aside0.mk Q_BL
                refine goes_ Try.func7 (by kernel_rfl) rfl #[.int .u8 (va : Int)] (by rfl) rfl rfl (by first | (simp only [List.map_toArray, List.map_cons, List.map_nil, Act.eval, Array.getD_eq_getD_getElem?, Option.getD_some, e53]; done) | (simp only [List.map_toArray, List.map_cons, List.map_nil, Act.eval, Array.getD_eq_getD_getElem?, Option.getD_some, e53]; rfl)) ?_
                refine (affine_any HA.out _).mono ?_
                rintro e_ wx ⟨rfl, ⟨nd, rfl⟩⟩
                refine ⟨_, rfl, ?_⟩
                refine hK.out _ _ ⟨(by rw [ha.out]; exact putSel_upk 1 hb_ rfl rfl rfl), RS.out.drewN nd, RT.out.drewN nd, XX11.out.drewN nd, XX12.out.drewN nd, below_drewN BL.out nd⟩
              refine steps_cons ?_ ?_
              · rintro b a w' ⟨ha, Q_RS, Q_RT, Q_XX11, Q_XX12, Q_BL⟩ hb_ hon hoff
                refine ⟨_, rfl, fun K hK => ?_⟩
                have e8 : a.tmps[8]? = some (.int .u8 (vb : Int)) := by rw [ha]; exact (putSel_off rfl).trans rfl
                replace ha := Aside0.mk ha
                have RS := Aside0.mk Q_RS
                have RT := Aside0.mk Q_RT
                have XX11 := Aside0.mk Q_XX11
                have XX12 := Aside0.mk Q_XX12
                have BL := Aside0.mk Q_BL
                refine value_ (w1 := w') (v := .int .u8 (vb : Int)) (by rfl) rfl ?_ ?_
                · go_simp
                  (try simp only [i64_w])
                  try rfl
                refine hK.out _ _ ⟨(by rw [ha.out]; exact putSel_upk 2 hb_ rfl rfl rfl), Q_RS, Q_RT, Q_XX11, Q_XX12, Q_BL⟩
              refine steps_cons ?_ ?_
              · rintro b a w' ⟨ha, Q_RS, Q_RT, Q_XX11, Q_XX12, Q_BL⟩ hb_ hon hoff
                refine ⟨_, rfl, fun K hK => ?_⟩
                have e55 : a.tmps[55]? = some (.int .u8 (vb : Int)) := by rw [ha]; exact putSel_on (e := (2, 55, .int .u8 (vb : Int))) 2 rfl rfl (hon 2 (by kernel_rfl)) rfl
                replace ha := Aside0.mk ha
                have RS := Aside0.mk Q_RS
                have RT := Aside0.mk Q_RT
                have XX11 := Aside0.mk Q_XX11
                have XX12 := Aside0.mk Q_XX12
                have BL := Aside0.mk Q_BL
                refine goes_ Try.func7 (by kernel_rfl) rfl #[.int .u8 (vb : Int)] (by rfl) rfl rfl (by first | (simp only [List.map_toArray, List.map_cons, List.map_nil, Act.eval, Array.getD_eq_getD_getElem?, Option.getD_some, e55]; done) | (simp only [List.map_toArray, List.map_cons, List.map_nil, Act.eval, Array.getD_eq_getD_getElem?, Option.getD_some, e55]; rfl)) ?_
                refine (affine_any HB.out _).mono ?_
                rintro e_ wx ⟨rfl, ⟨nd, rfl⟩⟩
                refine ⟨_, rfl, ?_⟩
                refine hK.out _ _ ⟨(by rw [ha.out]; exact putSel_upk 3 hb_ rfl rfl rfl), RS.out.drewN nd, RT.out.drewN nd, XX11.out.drewN nd, XX12.out.drewN nd, below_drewN BL.out nd⟩
              refine steps_cons ?_ ?_
              · rintro b a w' ⟨ha, Q_RS, Q_RT, Q_XX11, Q_XX12, Q_BL⟩ hb_ hon hoff
                refine ⟨_, rfl, fun K hK => ?_⟩
                have e54 : a.tmps[54]? = some (.int .u8 ((aff va : Nat) : Int)) := by rw [ha]; exact putSel_on (e := (1, 54, .int .u8 ((aff va : Nat) : Int))) 1 rfl rfl (hon 1 (by kernel_rfl)) rfl
                have e56 : a.tmps[56]? = some (.int .u8 ((aff vb : Nat) : Int)) := by rw [ha]; exact putSel_on (e := (3, 56, .int .u8 ((aff vb : Nat) : Int))) 3 rfl rfl (hon 3 (by kernel_rfl)) rfl
                replace ha := Aside0.mk ha
                have RS := Aside0.mk Q_RS
                have RT := Aside0.mk Q_RT
                have XX11 := Aside0.mk Q_XX11
                have XX12 := Aside0.mk Q_XX12
                have BL := Aside0.mk Q_BL
                have hq := HU1.out
                refine value_ (w1 := w') (v := .bool u) (by rfl) rfl ?_ ?_
                · go_simp
                  (try simp only [i64_w])
                  try rfl
                refine hK.out _ _ ⟨(by rw [ha.out]; exact putSel_upk 4 hb_ rfl rfl rfl), Q_RS, Q_RT, Q_XX11, Q_XX12, Q_BL⟩
              refine steps_cons ?_ ?_
              · rintro b a w' ⟨ha, Q_RS, Q_RT, Q_XX11, Q_XX12, Q_BL⟩ hb_ hon hoff
                refine ⟨_, rfl, fun K hK => ?_⟩
                have e7 : a.tmps[7]? = some (.int .u8 (va : Int)) := by rw [ha]; exact (putSel_off rfl).trans rfl
                replace ha := Aside0.mk ha
                have RS := Aside0.mk Q_RS
                have RT := Aside0.mk Q_RT
                have XX11 := Aside0.mk Q_XX11
                have XX12 := Aside0.mk Q_XX12
                have BL := Aside0.mk Q_BL
                refine value_ (w1 := w') (v := .int .u8 (va : Int)) (by rfl) rfl ?_ ?_
                · go_simp
                  (try simp only [i64_w])
                  try rfl
                refine hK.out _ _ ⟨(by rw [ha.out]; exact putSel_upk 5 hb_ rfl rfl rfl), Q_RS, Q_RT, Q_XX11, Q_XX12, Q_BL⟩
              refine steps_cons ?_ ?_
              · rintro b a w' ⟨ha, Q_RS, Q_RT, Q_XX11, Q_XX12, Q_BL⟩ hb_ hon hoff
                refine ⟨_, rfl, fun K hK => ?_⟩
                have e8 : a.tmps[8]? = some (.int .u8 (vb : Int)) := by rw [ha]; exact (putSel_off rfl).trans rfl
                replace ha := Aside0.mk ha
                have RS := Aside0.mk Q_RS
                have RT := Aside0.mk Q_RT
                have XX11 := Aside0.mk Q_XX11
                have XX12 := Aside0.mk Q_XX12
                have BL := Aside0.mk Q_BL
                refine value_ (w1 := w') (v := .int .u8 (vb : Int)) (by rfl) rfl ?_ ?_
                · go_simp
                  (try simp only [i64_w])
                  try rfl
                refine hK.out _ _ ⟨(by rw [ha.out]; exact putSel_upk 6 hb_ rfl rfl rfl), Q_RS, Q_RT, Q_XX11, Q_XX12, Q_BL⟩
              refine steps_cons ?_ ?_
              · rintro b a w' ⟨ha, Q_RS, Q_RT, Q_XX11, Q_XX12, Q_BL⟩ hb_ hon hoff
                refine ⟨_, rfl, fun K hK => ?_⟩
                have e58 : a.tmps[58]? = some (.int .u8 (va : Int)) := by rw [ha]; exact putSel_on (e := (5, 58, .int .u8 (va : Int))) 5 rfl rfl (hon 5 (by kernel_rfl)) rfl
                have e59 : a.tmps[59]? = some (.int .u8 (vb : Int)) := by rw [ha]; exact putSel_on (e := (6, 59, .int .u8 (vb : Int))) 6 rfl rfl (hon 6 (by kernel_rfl)) rfl
                replace ha := Aside0.mk ha
                have RS := Aside0.mk Q_RS
                have RT := Aside0.mk Q_RT
                have XX11 := Aside0.mk Q_XX11
                have XX12 := Aside0.mk Q_XX12
                have BL := Aside0.mk Q_BL
                have hq := HU2.out
                refine value_ (w1 := w') (v := .bool u) (by rfl) rfl ?_ ?_
                · go_simp
                  (try simp only [i64_w])
                  try rfl
                refine hK.out _ _ ⟨(by rw [ha.out]; exact putSel_upk 7 hb_ rfl rfl rfl), Q_RS, Q_RT, Q_XX11, Q_XX12, Q_BL⟩
              refine steps_cons ?_ ?_
              · rintro b a w' ⟨ha, Q_RS, Q_RT, Q_XX11, Q_XX12, Q_BL⟩ hb_ hon hoff
                refine ⟨_, rfl, fun K hK => ?_⟩
                have e57 : a.tmps[57]? = some (.bool u) := by rw [ha]; exact putSel_on (e := (4, 57, .bool u)) 4 rfl rfl (hon 4 (by kernel_rfl)) rfl
                have e60 : a.tmps[60]? = some (.bool u) := by rw [ha]; exact putSel_on (e := (7, 60, .bool u)) 7 rfl rfl (hon 7 (by kernel_rfl)) rfl
                replace ha := Aside0.mk ha
                have RS := Aside0.mk Q_RS
                have RT := Aside0.mk Q_RT
                have XX11 := Aside0.mk Q_XX11
                have XX12 := Aside0.mk Q_XX12
                have BL := Aside0.mk Q_BL
                refine value_ (w1 := w') (v := .bool true) (by rfl) rfl ?_ ?_
                · go_simp
                  (try simp only [i64_w])
                  try rfl
                refine hK.out _ _ ⟨(by rw [ha.out]; exact putSel_upk 8 hb_ rfl rfl rfl), Q_RS, Q_RT, Q_XX11, Q_XX12, Q_BL⟩
              refine steps_cons ?_ ?_
              · rintro b a w' ⟨ha, Q_RS, Q_RT, Q_XX11, Q_XX12, Q_BL⟩ hb_ hon hoff
                refine ⟨_, rfl, fun K hK => ?_⟩
                have e61 : a.tmps[61]? = some (.bool true) := by rw [ha]; exact putSel_on (e := (8, 61, .bool true)) 8 rfl rfl (hon 8 (by kernel_rfl)) rfl
                replace ha := Aside0.mk ha
                have RS := Aside0.mk Q_RS
                have RT := Aside0.mk Q_RT
                have XX11 := Aside0.mk Q_XX11
                have XX12 := Aside0.mk Q_XX12
                have BL := Aside0.mk Q_BL
                refine value_ (w1 := w') (v := .bool true) (by rfl) rfl ?_ ?_
                · go_simp
                  (try simp only [i64_w])
                  try rfl
                refine hK.out _ _ ⟨(by rw [ha.out]; exact putSel_upk 9 hb_ rfl rfl rfl), Q_RS, Q_RT, Q_XX11, Q_XX12, Q_BL⟩
              refine steps_cons ?_ ?_
              · rintro b a w' ⟨ha, Q_RS, Q_RT, Q_XX11, Q_XX12, Q_BL⟩ hb_ hon hoff
                refine ⟨_, rfl, fun K hK => ?_⟩
                have e11 : a.tmps[11]? = some (.pointer (some ⟨g11, 0, none⟩)) := by rw [ha]; exact (putSel_off rfl).trans rfl
                have e62 : a.tmps[62]? = some (.bool true) := by rw [ha]; exact putSel_on (e := (9, 62, .bool true)) 9 rfl rfl (hon 9 (by kernel_rfl)) rfl
                replace ha := Aside0.mk ha
                have RS := Aside0.mk Q_RS
                have RT := Aside0.mk Q_RT
                have XX11 := Aside0.mk Q_XX11
                have XX12 := Aside0.mk Q_XX12
                have BL := Aside0.mk Q_BL
                refine load_row_ (g := g11) (c := (twice s)) (wanted_on rfl rfl rfl (e62.trans (by first | rfl | (simp [*]; done)))) rfl rfl (eval_of e11) XX11.out H2S.out.1 ?_
                refine hK.out _ _ ⟨(by rw [ha.out]; exact putSel_upk 10 hb_ rfl rfl rfl), RS.out, RT.out, XX11.out, XX12.out, BL.out⟩
              refine steps_cons ?_ ?_
              · rintro b a w' ⟨ha, Q_RS, Q_RT, Q_XX11, Q_XX12, Q_BL⟩ hb_ hon hoff
                refine ⟨_, rfl, fun K hK => ?_⟩
                have e12 : a.tmps[12]? = some (.pointer (some ⟨g12, 0, none⟩)) := by rw [ha]; exact (putSel_off rfl).trans rfl
                have e62 : a.tmps[62]? = some (.bool true) := by rw [ha]; exact putSel_on (e := (9, 62, .bool true)) 9 rfl rfl (hon 9 (by kernel_rfl)) rfl
                replace ha := Aside0.mk ha
                have RS := Aside0.mk Q_RS
                have RT := Aside0.mk Q_RT
                have XX11 := Aside0.mk Q_XX11
                have XX12 := Aside0.mk Q_XX12
                have BL := Aside0.mk Q_BL
                refine load_row_ (g := g12) (c := (twice t)) (wanted_on rfl rfl rfl (e62.trans (by first | rfl | (simp [*]; done)))) rfl rfl (eval_of e12) XX12.out H2T.out.1 ?_
                refine hK.out _ _ ⟨(by rw [ha.out]; exact putSel_upk 11 hb_ rfl rfl rfl), RS.out, RT.out, XX11.out, XX12.out, BL.out⟩
              refine steps_cons ?_ ?_
              · rintro b a w' ⟨ha, Q_RS, Q_RT, Q_XX11, Q_XX12, Q_BL⟩ hb_ hon hoff
                refine ⟨_, rfl, fun K hK => ?_⟩
                have e63 : a.tmps[63]? = some (.agg (cells (twice s))) := by rw [ha]; exact putSel_on (e := (10, 63, .agg (cells (twice s)))) 10 rfl rfl (hon 10 (by kernel_rfl)) rfl
                have e64 : a.tmps[64]? = some (.agg (cells (twice t))) := by rw [ha]; exact putSel_on (e := (11, 64, .agg (cells (twice t)))) 11 rfl rfl (hon 11 (by kernel_rfl)) rfl
                have e62 : a.tmps[62]? = some (.bool true) := by rw [ha]; exact putSel_on (e := (9, 62, .bool true)) 9 rfl rfl (hon 9 (by kernel_rfl)) rfl
                replace ha := Aside0.mk ha
                have RS := Aside0.mk Q_RS
                have RT := Aside0.mk Q_RT
                have XX11 := Aside0.mk Q_XX11
                have XX12 := Aside0.mk Q_XX12
                have BL := Aside0.mk Q_BL
                have heq := (equalIn_cells H2S.out H2T.out w').trans (by rw [HV1.out])
                refine value_ (w1 := w') (v := .bool v) (wanted_on rfl rfl rfl (e62.trans (by first | rfl | (simp [*]; done)))) rfl ?_ ?_
                · go_simp
                  (try simp only [i64_w])
                  try rfl
                refine hK.out _ _ ⟨(by rw [ha.out]; exact putSel_upk 12 hb_ rfl rfl rfl), Q_RS, Q_RT, Q_XX11, Q_XX12, Q_BL⟩
              refine steps_cons ?_ ?_
              · rintro b a w' ⟨ha, Q_RS, Q_RT, Q_XX11, Q_XX12, Q_BL⟩ hb_ hon hoff
                refine ⟨_, rfl, fun K hK => ?_⟩
                have e4 : a.tmps[4]? = some (.pointer (some ⟨w.heap.size + 1, 0, none⟩)) := by rw [ha]; exact (putSel_off rfl).trans rfl
                have e62 : a.tmps[62]? = some (.bool true) := by rw [ha]; exact putSel_on (e := (9, 62, .bool true)) 9 rfl rfl (hon 9 (by kernel_rfl)) rfl
                replace ha := Aside0.mk ha
                have RS := Aside0.mk Q_RS
                have RT := Aside0.mk Q_RT
                have XX11 := Aside0.mk Q_XX11
                have XX12 := Aside0.mk Q_XX12
                have BL := Aside0.mk Q_BL
                refine load_row_ (g := w.heap.size + 1) (c := s) (wanted_on rfl rfl rfl (e62.trans (by first | rfl | (simp [*]; done)))) rfl rfl (eval_of e4) RS.out HS.out.1 ?_
                refine hK.out _ _ ⟨(by rw [ha.out]; exact putSel_upk 13 hb_ rfl rfl rfl), RS.out, RT.out, XX11.out, XX12.out, BL.out⟩
              refine steps_cons ?_ ?_
              · rintro b a w' ⟨ha, Q_RS, Q_RT, Q_XX11, Q_XX12, Q_BL⟩ hb_ hon hoff
                refine ⟨_, rfl, fun K hK => ?_⟩
                have e5 : a.tmps[5]? = some (.pointer (some ⟨w.heap.size + 2, 0, none⟩)) := by rw [ha]; exact (putSel_off rfl).trans rfl
                have e62 : a.tmps[62]? = some (.bool true) := by rw [ha]; exact putSel_on (e := (9, 62, .bool true)) 9 rfl rfl (hon 9 (by kernel_rfl)) rfl
                replace ha := Aside0.mk ha
                have RS := Aside0.mk Q_RS
                have RT := Aside0.mk Q_RT
                have XX11 := Aside0.mk Q_XX11
                have XX12 := Aside0.mk Q_XX12
                have BL := Aside0.mk Q_BL
                refine load_row_ (g := w.heap.size + 2) (c := t) (wanted_on rfl rfl rfl (e62.trans (by first | rfl | (simp [*]; done)))) rfl rfl (eval_of e5) RT.out HT.out.1 ?_
                refine hK.out _ _ ⟨(by rw [ha.out]; exact putSel_upk 14 hb_ rfl rfl rfl), RS.out, RT.out, XX11.out, XX12.out, BL.out⟩
              refine steps_cons ?_ ?_
              · rintro b a w' ⟨ha, Q_RS, Q_RT, Q_XX11, Q_XX12, Q_BL⟩ hb_ hon hoff
                refine ⟨_, rfl, fun K hK => ?_⟩
                have e66 : a.tmps[66]? = some (.agg (cells s)) := by rw [ha]; exact putSel_on (e := (13, 66, .agg (cells s))) 13 rfl rfl (hon 13 (by kernel_rfl)) rfl
                have e67 : a.tmps[67]? = some (.agg (cells t)) := by rw [ha]; exact putSel_on (e := (14, 67, .agg (cells t))) 14 rfl rfl (hon 14 (by kernel_rfl)) rfl
                have e62 : a.tmps[62]? = some (.bool true) := by rw [ha]; exact putSel_on (e := (9, 62, .bool true)) 9 rfl rfl (hon 9 (by kernel_rfl)) rfl
                replace ha := Aside0.mk ha
                have RS := Aside0.mk Q_RS
                have RT := Aside0.mk Q_RT
                have XX11 := Aside0.mk Q_XX11
                have XX12 := Aside0.mk Q_XX12
                have BL := Aside0.mk Q_BL
                have heq := (equalIn_cells HS.out HT.out w').trans (by rw [HV2.out])
                refine value_ (w1 := w') (v := .bool v) (wanted_on rfl rfl rfl (e62.trans (by first | rfl | (simp [*]; done)))) rfl ?_ ?_
                · go_simp
                  (try simp only [i64_w])
                  try rfl
                refine hK.out _ _ ⟨(by rw [ha.out]; exact putSel_upk 15 hb_ rfl rfl rfl), Q_RS, Q_RT, Q_XX11, Q_XX12, Q_BL⟩
              refine steps_cons ?_ ?_
              · rintro b a w' ⟨ha, Q_RS, Q_RT, Q_XX11, Q_XX12, Q_BL⟩ hb_ hon hoff
                refine ⟨_, rfl, fun K hK => ?_⟩
                have e65 : a.tmps[65]? = some (.bool v) := by rw [ha]; exact putSel_on (e := (12, 65, .bool v)) 12 rfl rfl (hon 12 (by kernel_rfl)) rfl
                have e68 : a.tmps[68]? = some (.bool v) := by rw [ha]; exact putSel_on (e := (15, 68, .bool v)) 15 rfl rfl (hon 15 (by kernel_rfl)) rfl
                have e62 : a.tmps[62]? = some (.bool true) := by rw [ha]; exact putSel_on (e := (9, 62, .bool true)) 9 rfl rfl (hon 9 (by kernel_rfl)) rfl
                replace ha := Aside0.mk ha
                have RS := Aside0.mk Q_RS
                have RT := Aside0.mk Q_RT
                have XX11 := Aside0.mk Q_XX11
                have XX12 := Aside0.mk Q_XX12
                have BL := Aside0.mk Q_BL
                refine value_ (w1 := w') (v := .bool true) (wanted_on rfl rfl rfl (e62.trans (by first | rfl | (simp [*]; done)))) rfl ?_ ?_
                · go_simp
                  (try simp only [i64_w])
                  try rfl
                refine hK.out _ _ ⟨(by rw [ha.out]; exact putSel_upk 16 hb_ rfl rfl rfl), Q_RS, Q_RT, Q_XX11, Q_XX12, Q_BL⟩
              refine steps_cons ?_ ?_
              · rintro b a w' ⟨ha, Q_RS, Q_RT, Q_XX11, Q_XX12, Q_BL⟩ hb_ hon hoff
                refine ⟨_, rfl, fun K hK => ?_⟩
                have e62 : a.tmps[62]? = some (.bool true) := by rw [ha]; exact putSel_on (e := (9, 62, .bool true)) 9 rfl rfl (hon 9 (by kernel_rfl)) rfl
                have e69 : a.tmps[69]? = some (.bool true) := by rw [ha]; exact putSel_on (e := (16, 69, .bool true)) 16 rfl rfl (hon 16 (by kernel_rfl)) rfl
                replace ha := Aside0.mk ha
                have RS := Aside0.mk Q_RS
                have RT := Aside0.mk Q_RT
                have XX11 := Aside0.mk Q_XX11
                have XX12 := Aside0.mk Q_XX12
                have BL := Aside0.mk Q_BL
                refine value_ (w1 := w') (v := .bool true) (by rfl) rfl ?_ ?_
                · go_simp
                  (try simp only [i64_w])
                  try rfl
                refine hK.out _ _ ⟨(by rw [ha.out]; exact putSel_upk 17 hb_ rfl rfl rfl), Q_RS, Q_RT, Q_XX11, Q_XX12, Q_BL⟩
              refine steps_cons ?_ ?_
              · rintro b a w' ⟨ha, Q_RS, Q_RT, Q_XX11, Q_XX12, Q_BL⟩ hb_ hon hoff
                refine ⟨_, rfl, fun K hK => ?_⟩
                have e70 : a.tmps[70]? = some (.bool true) := by rw [ha]; exact putSel_on (e := (17, 70, .bool true)) 17 rfl rfl (hon 17 (by kernel_rfl)) rfl
                replace ha := Aside0.mk ha
                have RS := Aside0.mk Q_RS
                have RT := Aside0.mk Q_RT
                have XX11 := Aside0.mk Q_XX11
                have XX12 := Aside0.mk Q_XX12
                have BL := Aside0.mk Q_BL
                refine value_ (w1 := w') (v := .bool true) (by rfl) rfl ?_ ?_
                · go_simp
                  (try simp only [i64_w])
                  try rfl
                refine hK.out _ _ ⟨(by rw [ha.out]; exact putSel_upk 18 hb_ rfl rfl rfl), Q_RS, Q_RT, Q_XX11, Q_XX12, Q_BL⟩
              refine steps_cons ?_ ?_
              · rintro b a w' ⟨ha, Q_RS, Q_RT, Q_XX11, Q_XX12, Q_BL⟩ hb_ hon hoff
                refine ⟨_, rfl, fun K hK => ?_⟩
                have e71 : a.tmps[71]? = some (.bool true) := by rw [ha]; exact putSel_on (e := (18, 71, .bool true)) 18 rfl rfl (hon 18 (by kernel_rfl)) rfl
                replace ha := Aside0.mk ha
                have RS := Aside0.mk Q_RS
                have RT := Aside0.mk Q_RT
                have XX11 := Aside0.mk Q_XX11
                have XX12 := Aside0.mk Q_XX12
                have BL := Aside0.mk Q_BL
                refine goes_ Try.func8 (by kernel_rfl) rfl #[] (wanted_on rfl rfl rfl (e71.trans (by first | rfl | (simp [*]; done)))) rfl rfl (by first | (simp only [List.map_toArray, List.map_cons, List.map_nil, Act.eval, Array.getD_eq_getD_getElem?, Option.getD_some, e71]; done) | (simp only [List.map_toArray, List.map_cons, List.map_nil, Act.eval, Array.getD_eq_getD_getElem?, Option.getD_some, e71]; rfl)) ?_
                refine (Aw.awake_any _).mono ?_
                rintro e_ wx ⟨rfl, ⟨nd, rfl⟩⟩
                refine ⟨_, rfl, ?_⟩
                refine hK.out _ _ ⟨(by rw [ha.out]; exact putSel_upk 19 hb_ rfl rfl rfl), RS.out.drewN nd, RT.out.drewN nd, XX11.out.drewN nd, XX12.out.drewN nd, below_drewN BL.out nd⟩
              refine steps_cons ?_ ?_
              · rintro b a w' ⟨ha, Q_RS, Q_RT, Q_XX11, Q_XX12, Q_BL⟩ hb_ hon hoff
                refine ⟨_, rfl, fun K hK => ?_⟩
                have e71 : a.tmps[71]? = some (.bool true) := by rw [ha]; exact putSel_on (e := (18, 71, .bool true)) 18 rfl rfl (hon 18 (by kernel_rfl)) rfl
                have e72 : a.tmps[72]? = some (.bool true) := by rw [ha]; exact putSel_on (e := (19, 72, .bool true)) 19 rfl rfl (hon 19 (by kernel_rfl)) rfl
                replace ha := Aside0.mk ha
                have RS := Aside0.mk Q_RS
                have RT := Aside0.mk Q_RT
                have XX11 := Aside0.mk Q_XX11
                have XX12 := Aside0.mk Q_XX12
                have BL := Aside0.mk Q_BL
                refine value_ (w1 := w') (v := .bool true) (by rfl) rfl ?_ ?_
                · go_simp
                  (try simp only [i64_w])
                  try rfl
                refine hK.out _ _ ⟨(by rw [ha.out]; exact putSel_upk 20 hb_ rfl rfl rfl), Q_RS, Q_RT, Q_XX11, Q_XX12, Q_BL⟩
              refine steps_cons ?_ ?_
              · rintro b a w' ⟨ha, Q_RS, Q_RT, Q_XX11, Q_XX12, Q_BL⟩ hb_ hon hoff
                refine ⟨_, rfl, fun K hK => ?_⟩
                have e73 : a.tmps[73]? = some (.bool true) := by rw [ha]; exact putSel_on (e := (20, 73, .bool true)) 20 rfl rfl (hon 20 (by kernel_rfl)) rfl
                replace ha := Aside0.mk ha
                have RS := Aside0.mk Q_RS
                have RT := Aside0.mk Q_RT
                have XX11 := Aside0.mk Q_XX11
                have XX12 := Aside0.mk Q_XX12
                have BL := Aside0.mk Q_BL
                refine value_ (w1 := w') (v := .bool true) (by rfl) rfl ?_ ?_
                · go_simp
                  (try simp only [i64_w])
                  try rfl
                refine hK.out _ _ ⟨(by rw [ha.out]; exact putSel_upk 21 hb_ rfl rfl rfl), Q_RS, Q_RT, Q_XX11, Q_XX12, Q_BL⟩
              exact steps_nil
            · rintro b a w' hall ⟨ha, Q_RS, Q_RT, Q_XX11, Q_XX12, Q_BL⟩
              clear BL RS RT XX11 XX12
              have hb0_ := hall 0 (by kernel_rfl)
              have hb1_ := hall 1 (by kernel_rfl)
              have hb2_ := hall 2 (by kernel_rfl)
              have hb3_ := hall 3 (by kernel_rfl)
              have hb4_ := hall 4 (by kernel_rfl)
              have hb5_ := hall 5 (by kernel_rfl)
              have hb6_ := hall 6 (by kernel_rfl)
              have hb7_ := hall 7 (by kernel_rfl)
              have hb8_ := hall 8 (by kernel_rfl)
              have hb9_ := hall 9 (by kernel_rfl)
              have hb10_ := hall 10 (by kernel_rfl)
              have hb11_ := hall 11 (by kernel_rfl)
              have hb12_ := hall 12 (by kernel_rfl)
              have hb13_ := hall 13 (by kernel_rfl)
              have hb14_ := hall 14 (by kernel_rfl)
              have hb15_ := hall 15 (by kernel_rfl)
              have hb16_ := hall 16 (by kernel_rfl)
              have hb17_ := hall 17 (by kernel_rfl)
              have hb18_ := hall 18 (by kernel_rfl)
              have hb19_ := hall 19 (by kernel_rfl)
              have hb20_ := hall 20 (by kernel_rfl)
              have hb21_ := hall 21 (by kernel_rfl)
              subst ha
              simp only [putSel, hb0_, hb1_, hb2_, hb3_, hb4_, hb5_, hb6_, hb7_, hb8_, hb9_, hb10_, hb11_, hb12_, hb13_, hb14_, hb15_, hb16_, hb17_, hb18_, hb19_, hb20_, hb21_, if_true, Act.put, List.setIfInBounds_toArray, List.set_cons_zero, List.set_cons_succ]
              have RS := Aside0.mk Q_RS
              clear Q_RS
              have RT := Aside0.mk Q_RT
              clear Q_RT
              have XX11 := Aside0.mk Q_XX11
              clear Q_XX11
              have XX12 := Aside0.mk Q_XX12
              clear Q_XX12
              have BL := Aside0.mk Q_BL
              clear Q_BL
              clear hall hb0_ hb1_ hb2_ hb3_ hb4_ hb5_ hb6_ hb7_ hb8_ hb9_ hb10_ hb11_ hb12_ hb13_ hb14_ hb15_ hb16_ hb17_ hb18_ hb19_ hb20_ hb21_
              go_wp2_with fail
              go_ret
              exact ⟨rfl, BL.out⟩
theorem apart_c (c : List Nat) (hl : c.length = 2) (hb : ∀ x ∈ c, x < 256) (s t : List Nat) (hs : Row16 s) (ht : Row16 t) (w : World) : Calls Try.prog 3 #[.agg (cells c), .agg (cells s), .agg (cells t)] w fun e w' => e = .returned (.bool true) ∧ Below w.heap.size w w' := by
  match c, hl with
  | [va, vb], _ => exact apart va vb (hb va (by simp)) (hb vb (by simp)) s t hs ht w
end Go.Proofs.Ytaeamdgifknieab.Ap
