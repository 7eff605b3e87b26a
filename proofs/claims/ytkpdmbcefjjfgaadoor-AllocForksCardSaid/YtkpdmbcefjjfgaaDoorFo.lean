/- AllocForks' walk: a fork is as the set is, and what becomes of one changes nothing of the other. -/
import Derived.Test.YtkpdmbcefjjfgaaDoorPl
namespace Go.Proofs.YtkpdmbcefjjfgaaDoor.Fo
open Go.RowKit Go.Proofs.YtkpdmbcefjjfgaaDoorW.PrintWords Go.Proofs.YtkpdmbcefjjfgaaDoorW.PrintLast Go.Proofs.YtkpdmbcefjjfgaaDoorW.PrintMore Wd Sa Sb Sc Sd Se Sf Si PAllocPlays Dq Sm Pl

/-- What a set and its list are in a world of the law: the list lies in the cell g. -/
structure Pair (w W : World) (sb wb T g : Nat) (A1 : Option Addr) (c1 : Nat) (L : List Nat) : Prop where
  st : St w W sb wb T (.slice A1 (ints L).length c1) L
  cell : W.heap[g]? = some (.cells #[.int .i64 T, .slice A1 (ints L).length c1] 29 (0, 0))
theorem Pair.below {w W W' : World} {sb wb T g c1 : Nat} {A1 : Option Addr} {L : List Nat} (h : Pair w W sb wb T g A1 c1 L) (hb : Below W.heap.size W W') : Pair w W' sb wb T g A1 c1 L :=
  ⟨⟨SetAt.below h.st.set hb (SetAt.lt h.st.set).1 (SetAt.lt h.st.set).2, Tab.below h.st.tab hb (Tab.pos h.st.tab), h.st.bel.trans (hb.mono h.st.bel.size), h.st.rv.below hb⟩, blk_below h.cell hb⟩
/-- Another set's call. -/
theorem Pair.keep {w W W' : World} {sb wb T g c1 s2 w2 : Nat} {A1 : Option Addr} {L : List Nat} (h : Pair w W sb wb T g A1 c1 L) (hk : Keep (Two s2 w2) W W') (hs : ∃ T2 L2, SetAt W s2 w2 T2 L2) (h1 : ¬ Two s2 w2 sb) (h2 : ¬ Two s2 w2 wb) (h3 : ¬ Two s2 w2 g) (h4 : w.heap.size ≤ s2) (h5 : w.heap.size ≤ w2) (h0 : 0 < w.heap.size) : Pair w W' sb wb T g A1 c1 L :=
  ⟨⟨SetAt.keep h.st.set hk h1 h2, Tab.keep h.st.tab hk (two_no (by omega) (by omega)), hk.below h.st.bel h.st.bel.size (two_ge h4 h5), h.st.rv.kept hk.kept (fun k hk => by
    obtain ⟨T2, L2, ws, _, q1, q2⟩ := hs
    rcases hk with rfl | rfl
    · exact h.st.rv.ne q1 (by decide)
    · exact h.st.rv.ne q2 (by decide))⟩, blk_kept h.cell hk.kept h3⟩
/-- A store into another cell of lists. -/
theorem Pair.store {w W : World} {sb wb T g c1 g2 : Nat} {A1 : Option Addr} {L : List Nat} {cs : Array Value} (h : Pair w W sb wb T g A1 c1 L) (h2 : W.heap[g2]? = some (.cells cs 29 (0, 0))) (hg2 : w.heap.size ≤ g2) (h0 : 0 < w.heap.size) (hne : g ≠ g2) (i : Nat) (u : Value) : Pair w (W.setCell ⟨g2, i, none⟩ u) sb wb T g A1 c1 L := by
  obtain ⟨ws, hok, q1, q2⟩ := h.st.set
  exact ⟨h.st.store hg2 (by omega) (blk_ne q1 h2 (by decide)) (blk_ne q2 h2 (by decide)) (h.st.rv.ne h2 (by decide)) i u, blk_far h.cell (p := ⟨g2, i, none⟩) hne u⟩
/-- A set's call with its list, and the list laid into its cell. -/
theorem Pair.step {w W wx : World} {sb wb T g c1 c2 : Nat} {A1 A2 : Option Addr} {L L2 : List Nat} (h : Pair w W sb wb T g A1 c1 L) (he : Dq.End w.heap.size W wx sb wb T (.slice A2 (ints L2).length c2) L2) (hgx : wx.heap[g]? = some (.cells #[.int .i64 T, .slice A1 (ints L).length c1] 29 (0, 0))) (h0 : 0 < w.heap.size) (hg : w.heap.size ≤ g) (h1 : w.heap.size ≤ sb) (h2 : w.heap.size ≤ wb) :
    Pair w ((wx.setCell ⟨g, 0, none⟩ (.int .i64 T)).setCell ⟨g, 1, none⟩ (.slice A2 (ints L2).length c2)) sb wb T g A2 c2 L2 := by
  obtain ⟨ws, hok, q1, q2⟩ := he.set
  have n1 : sb ≠ g := blk_ne q1 hgx (by decide)
  have n2 : wb ≠ g := blk_ne q2 hgx (by decide)
  exact ⟨St.store (St.store (St.of he h.st.bel h.st.tab h0 h1 h2) hg (by omega) n1 n2 (he.rv.ne hgx (by decide)) 0 _) hg (by omega) n1 n2 (he.rv.ne hgx (by decide)) 1 _,
    blk_put (cs' := #[.int .i64 T, .slice A2 (ints L2).length c2]) (blk_put (cs' := #[.int .i64 T, .slice A1 (ints L).length c1]) hgx 0 (.int .i64 T) rfl) 1 (.slice A2 (ints L2).length c2) rfl⟩
theorem Pair.drew {w W : World} {sb wb T g c1 : Nat} {A1 : Option Addr} {L : List Nat} (h : Pair w W sb wb T g A1 c1 L) : Pair w W.drew sb wb T g A1 c1 L :=
  ⟨⟨h.st.set, h.st.tab, h.st.bel.drew, h.st.rv⟩, h.cell⟩
/-- The fork has been made; then its list's cell. -/
theorem Pair.fork1 {w W : World} {sb wb T g c1 s2 w2 : Nat} {A1 : Option Addr} {L : List Nat} (h : Pair w W sb wb T g A1 c1 L) (hs : SetAt W s2 w2 T L) :
    Pair w (W.alloc (.cells #[.int .i64 T, .slice A1 (ints L).length c1] 29)) sb wb T g A1 c1 L ∧ Pair w (W.alloc (.cells #[.int .i64 T, .slice A1 (ints L).length c1] 29)) s2 w2 T W.heap.size A1 c1 L :=
  have hb := below_alloc (Below.refl W.heap.size W) (.cells #[.int .i64 T, .slice A1 (ints L).length c1] 29)
  ⟨h.below hb, ⟨⟨SetAt.below hs hb (SetAt.lt hs).1 (SetAt.lt hs).2, Tab.below h.st.tab hb (Tab.pos h.st.tab), h.st.bel.trans (hb.mono h.st.bel.size), h.st.rv.below hb⟩, blk_new W _⟩⟩
/-- The cell had been made ahead of the fork. -/
theorem Pair.fork2 {w W : World} {sb wb T g c1 s2 w2 g2 : Nat} {A1 : Option Addr} {L : List Nat} (h : Pair w W sb wb T g A1 c1 L) (hs : SetAt W s2 w2 T L) (hz : W.heap[g2]? = some (.cells #[.int .i64 0, .slice none 0 0] 29 (0, 0))) (hg2 : w.heap.size ≤ g2) (h0 : 0 < w.heap.size) (hne : g ≠ g2) :
    Pair w ((W.setCell ⟨g2, 0, none⟩ (.int .i64 T)).setCell ⟨g2, 1, none⟩ (.slice A1 (ints L).length c1)) sb wb T g A1 c1 L ∧ Pair w ((W.setCell ⟨g2, 0, none⟩ (.int .i64 T)).setCell ⟨g2, 1, none⟩ (.slice A1 (ints L).length c1)) s2 w2 T g2 A1 c1 L := by
  obtain ⟨ws, hok, q1, q2⟩ := hs
  have n1 : s2 ≠ g2 := blk_ne q1 hz (by decide)
  have n2 : w2 ≠ g2 := blk_ne q2 hz (by decide)
  have hz1 := blk_put (cs' := #[.int .i64 T, .slice none 0 0]) hz 0 (.int .i64 T) rfl
  have hz2 := blk_put (cs' := #[.int .i64 T, .slice A1 (ints L).length c1]) hz1 1 (.slice A1 (ints L).length c1) rfl
  have st2 : St w W s2 w2 T (.slice A1 (ints L).length c1) L := ⟨⟨ws, hok, q1, q2⟩, h.st.tab, h.st.bel, h.st.rv⟩
  exact ⟨Pair.store (Pair.store h hz hg2 h0 hne 0 _) hz1 hg2 h0 hne 1 _, ⟨St.store (St.store st2 hg2 (by omega) n1 n2 (h.st.rv.ne hz (by decide)) 0 _) hg2 (by omega) n1 n2 (h.st.rv.ne hz (by decide)) 1 _, hz2⟩⟩
/-- The other set's call, its list laid into its own cell. -/
theorem Pair.other {w W wx : World} {sb wb T g c1 f2 x2 g2 T2 G : Nat} {A1 : Option Addr} {L L2 M : List Nat} {rv : Value} {cs : Array Value} (h : Pair w W sb wb T g A1 c1 L) (he : Dq.End w.heap.size W wx f2 x2 T2 rv L2) (hs : SetAt W f2 x2 T2 M) (hgx : wx.heap[g2]? = some (.cells cs 29 (0, 0)))
    (h0 : 0 < w.heap.size) (hG : w.heap.size ≤ G) (hd : sb < G ∧ wb < G ∧ g < G) (hu : G ≤ f2 ∧ G ≤ x2 ∧ G ≤ g2) (u v : Value) :
    Pair w ((wx.setCell ⟨g2, 0, none⟩ u).setCell ⟨g2, 1, none⟩ v) sb wb T g A1 c1 L := by
  have hk := Pair.keep h he.keep ⟨_, _, hs⟩ (two_no (by omega) (by omega)) (two_no (by omega) (by omega)) (two_no (by omega) (by omega)) (by omega) (by omega) h0
  exact Pair.store (Pair.store hk hgx (by omega) h0 (by omega) 0 u) (blk_put (cs' := cs.setIfInBounds 0 u) hgx 0 u rfl) (by omega) h0 (by omega) 1 v
-- WALK
theorem tot_small (n : Nat) (h : n ≤ 65536) : totOf (n : Int) = n := by
  unfold totOf
  (repeat' split) <;> omega
set_option linter.unusedVariables false
set_option linter.unusedSimpArgs false
set_option maxRecDepth 100000 in
set_option maxHeartbeats 4000000 in
theorem forks (t : Nat) (ht16 : t < 65536) (A B : Option Addr) (ca cb : Nat) (l m : List (Nat × Nat)) {w : World} (hl : Acts w A l) (hm : Acts w B m) (hlen : l.length ≤ maxLen) (hlen2 : m.length ≤ maxLen) (ht : Tab w) :
    Calls Tryd.prog 3 #[.int .u16 (t : Int), .slice A l.length ca, .slice B m.length cb] w fun e w' => e = .returned (.bool true) ∧ Below w.heap.size w w' := by
  unfold maxLen at hlen hlen2
  have hu29 := Tryd.underlying29
  have h0 := Tab.pos ht
  have HT := Lib.hid ht
  have HL := Lib.hid hl
  have HM := Lib.hid hm
  clear ht hl hm
  by_cases hbig : 100 < l.length
  · go_enter Tryd.func3, Tryd.ntmps3
    go_wp2_with fail
    refine (awake_any HT.out).mono ?_
    rintro e w' ⟨rfl, hb⟩
    have HB := Lib.hid hb
    clear hb
    go_wp2_with fail
    go_ret
    exact ⟨rfl, HB.out⟩
  have hsm : l.length ≤ 100 := by omega
  clear hbig
  by_cases hbig : 100 < m.length
  · go_enter Tryd.func3, Tryd.ntmps3
    go_wp2_with fail
    refine (awake_any HT.out).mono ?_
    rintro e w' ⟨rfl, hb⟩
    have HB := Lib.hid hb
    clear hb
    go_wp2_with fail
    go_ret
    exact ⟨rfl, HB.out⟩
  have hsm2 : m.length ≤ 100 := by omega
  clear hbig
  have hnt : totOf (t : Int) = t := tot_small t (by omega)
  go_enter Tryd.func3, Tryd.ntmps3
  go_wp2_with fail
  refine (new_any t w).mono ?_
  rintro e w1 ⟨sb, wb, rfl, hs, hb, h1, h2⟩
  rw [hnt] at hs
  have HS := Lib.hid hs
  have HB := Lib.hid hb
  have HT1 := Lib.hid (Tab.below HT.out hb h0)
  clear hs hb HT
  go_wp2_with fail
  refine (refnew t).mono ?_
  rintro e w2 ⟨rv, rfl, hr, hb2⟩
  rw [hnt]
  have hlt := SetAt.lt HS.out
  obtain ⟨A1, c1, rfl⟩ := Kd.R_slice hr
  have HS2 := Lib.hid (SetAt.below HS.out hb2 hlt.1 hlt.2)
  have HT2 := Lib.hid (Tab.below HT1.out hb2 (Tab.pos HT1.out))
  have HB2 := Lib.hid (HB.out.trans (hb2.mono HB.out.size))
  have HR2 := Lib.hid (show Rv w.heap.size w2 (.slice A1 (ints []).length c1) [] from Kd.R_lower hr HB.out.size)
  have hlt2 := SetAt.lt HS2.out
  obtain ⟨g, hg⟩ : ∃ g, w2.heap.size = g := ⟨_, rfl⟩
  have hgw : w.heap.size ≤ g := by have := HB2.out.size; omega
  have hgs : sb < g ∧ wb < g := by omega
  have hbox := below_alloc (Below.refl w2.heap.size w2) (.cells #[.int .i64 t, .slice A1 (ints []).length c1] 29)
  have HP := Lib.hid (show Pair w (w2.alloc (.cells #[.int .i64 t, .slice A1 (ints []).length c1] 29)) sb wb t g A1 c1 [] from
    ⟨⟨SetAt.below HS2.out hbox hlt2.1 hlt2.2, Tab.below HT2.out hbox (Tab.pos HT2.out), HB2.out.trans (hbox.mono HB2.out.size), HR2.out.below hbox⟩, hg ▸ blk_new w2 _⟩)
  clear hr hb2 hlt HS HB HT1 hnt hbox hlt2 HS2 HT2 HB2 HR2
  go_wp2_with fail
  go_loopw [9] (fun v9 wr => ∃ (i : Nat) (L : List Nat) (A1 : Option Addr) (c1 : Nat), v9 = .int .i64 i ∧ i ≤ l.length ∧ Go.RowKit.Hid (Pair w wr sb wb t g A1 c1 L)) (fun v _ => l.length - (intOf v).toNat)
  case atStart => exact ⟨0, [], A1, c1, rfl, Nat.zero_le _, HP⟩
  case round =>
    clear HP
    obtain ⟨i, L, A1, c1, rfl, hi, hp⟩ := hrel
    by_cases hlt : i < l.length
    · obtain ⟨a, ha⟩ : ∃ a, l[i]? = some a := ⟨_, List.getElem?_eq_getElem hlt⟩
      obtain ⟨k, n⟩ := a
      obtain ⟨hk, hn, bb, off, hA, hbl, hc0, hc1⟩ := HL.out i _ ha
      have ca0 : wr.cell? ⟨bb, off + i * 2, none⟩ = some (.int .u8 (k : Int)) := (hp.out.st.bel.cell (p := ⟨bb, off + i * 2, none⟩) hbl).trans hc0
      have ca1 : wr.cell? ⟨bb, off + i * 2 + 1, none⟩ = some (.int .u32 (n : Int)) := (hp.out.st.bel.cell (p := ⟨bb, off + i * 2 + 1, none⟩) hbl).trans hc1
      have c0 : wr.cell? ⟨g, 0, none⟩ = some (.int .i64 t) := (blk_cell hp.out.cell 0).trans rfl
      have c1' : wr.cell? ⟨g, 1, none⟩ = some (.slice A1 (ints L).length c1) := (blk_cell hp.out.cell 1).trans rfl
      have hk' : k < 256 := hk
      have hn' : n < 4294967296 := hn
      subst hA
      clear ha hc0 hc1 hbl hk hn
      go_upto_region 7 with fail
      go_region_with (
        go_at_call 12
        refine (do_any (w0 := w) (w := wr.drew) (rv := .slice A1 (ints L).length c1) hp.out.st.tab hp.out.st.set hp.out.st.rv hp.out.st.bel.drew h1 h2 hk' hn').mono ?_
        rintro e wx ⟨rv', rfl, hend⟩
        obtain ⟨A2, c2, rfl⟩ := Kd.R_slice hend.rv
        have hgx := blk_kept (W := wr.drew) hp.out.cell hend.keep.kept (fun h => by rcases h with h | h <;> omega)
        have c0x : wx.cell? ⟨g, 0, none⟩ = some (.int .i64 t) := (blk_cell hgx 0).trans rfl
        have c1x : wx.cell? ⟨g, 1, none⟩ = some (.slice A1 (ints L).length c1) := (blk_cell hgx 1).trans rfl
        have f0x := blk_frozen hgx 0
        have f1x := blk_frozen hgx 1
        have HGX := Lib.hid hgx
        have HEND := Lib.hid hend
        clear hend hgx)
      all_goals go_wp2_with fail
      all_goals exact ⟨⟨i + 1, _, _, _, rfl, by omega, Lib.hid (Pair.step hp.out.drew HEND.out HGX.out h0 hgw h1 h2)⟩, by simp only [intOf]; omega⟩
    · have c0 : wr.cell? ⟨g, 0, none⟩ = some (.int .i64 t) := (blk_cell hp.out.cell 0).trans rfl
      have c1' : wr.cell? ⟨g, 1, none⟩ = some (.slice A1 (ints L).length c1) := (blk_cell hp.out.cell 1).trans rfl
      go_upto_region 8 with fail
      go_cut [10, 11, 12] from 45 to 48 (fun v10 v11 v12 wx => ∃ s2 w2 g2 : Nat, v10 = .pointer (some ⟨s2, 0, none⟩) ∧ v11 = .pointer (some ⟨g2, 0, none⟩) ∧ v12 = .bool true ∧ (wr.heap.size ≤ s2 ∧ wr.heap.size ≤ w2 ∧ wr.heap.size ≤ g2) ∧ Go.RowKit.Hid (Pair w wx sb wb t g A1 c1 L) ∧ Go.RowKit.Hid (Pair w wx s2 w2 t g2 A1 c1 L))
      case first =>
        have glr : g < wr.heap.size := blk_lt hp.out.cell
        have HA := Lib.hid (Pair.below hp.out (below_alloc (Below.refl wr.heap.size wr) (.cells #[.int .i64 0, .slice none 0 0] 29)))
        have HZ := Lib.hid (show (wr.alloc (.cells #[.int .i64 0, .slice none 0 0] 29)).drew.heap[wr.heap.size]? = some (.cells #[.int .i64 0, .slice none 0 0] 29 (0, 0)) from blk_new wr _)
        go_region_with (
          go_at_call 13
          refine (fork_any (sb := sb) (wb := wb) (T := t) (L := L) ?_).mono ?_
          · first | exact hp.out.st.set | exact HA.out.st.set
          rintro e wx ⟨s2, w2, rfl, hs2, hb2, q1, q2⟩
          first
            | (have hpx := Pair.below hp.out.drew hb2)
            | (have hpx := Pair.below HA.out.drew hb2
               have hzx := blk_below HZ.out hb2
               have z0x : wx.cell? ⟨wr.heap.size, 0, none⟩ = some (.int .i64 0) := (blk_cell hzx 0).trans rfl
               have z1x : wx.cell? ⟨wr.heap.size, 1, none⟩ = some (.slice none 0 0) := (blk_cell hzx 1).trans rfl
               have y0x := blk_frozen hzx 0
               have y1x := blk_frozen hzx 1
               have HZX := Lib.hid hzx
               clear hzx)
          have c0x : wx.cell? ⟨g, 0, none⟩ = some (.int .i64 t) := (blk_cell hpx.cell 0).trans rfl
          have c1x : wx.cell? ⟨g, 1, none⟩ = some (.slice A1 (ints L).length c1) := (blk_cell hpx.cell 1).trans rfl
          have glx : g < wx.heap.size := blk_lt hpx.cell
          have HPX := Lib.hid hpx
          have HS2 := Lib.hid hs2
          have HB2 := Lib.hid hb2
          clear hpx hs2 hb2)
        all_goals (go_wp2_with fail; go_meet)
        all_goals have hsz := HB2.out.size
        all_goals have hsz2 : wr.heap.size ≤ (wr.alloc (.cells #[.int .i64 0, .slice none 0 0] 29)).drew.heap.size := (below_alloc (Below.refl wr.heap.size wr) (.cells #[.int .i64 0, .slice none 0 0] 29)).size
        all_goals first
          | (have hf := Pair.fork1 HPX.out HS2.out
             have hsd : wr.heap.size ≤ wx.heap.size := hsz
             have q1' : wr.heap.size ≤ s2 := q1
             have q2' : wr.heap.size ≤ w2 := q2
             exact ⟨s2, w2, _, rfl, rfl, rfl, ⟨q1', q2', hsd⟩, Lib.hid hf.1, Lib.hid hf.2⟩)
          | (have hf := Pair.fork2 HPX.out HS2.out HZX.out hp.out.st.bel.size h0 (Nat.ne_of_lt glr)
             exact ⟨s2, w2, _, rfl, rfl, rfl, ⟨Nat.le_trans hsz2 q1, Nat.le_trans hsz2 q2, Nat.le_refl _⟩, Lib.hid hf.1, Lib.hid hf.2⟩)
      case rest =>
        have hlt := SetAt.lt hp.out.st.set
        have hlg := blk_lt hp.out.cell
        have hwr := hp.out.st.bel.size
        obtain ⟨f2, x2, g2, rfl, rfl, rfl, hu, hp1, hp2⟩ := hcut
        obtain ⟨G, hG⟩ : ∃ G, wr.heap.size = G := ⟨_, rfl⟩
        rw [hG] at hlt hlg hwr hu
        have hd : sb < G ∧ wb < G ∧ g < G := ⟨hlt.1, hlt.2, hlg⟩
        have hn : f2 ≠ g2 ∧ x2 ≠ g2 := by
          obtain ⟨ws, hok, z1, z2⟩ := hp2.out.st.set
          exact ⟨blk_ne z1 hp2.out.cell (by decide), blk_ne z2 hp2.out.cell (by decide)⟩
        have hgw2 : w.heap.size ≤ g2 := by omega
        have h12 : w.heap.size ≤ f2 := by omega
        have h22 : w.heap.size ≤ x2 := by omega
        clear c0 c1' hp hi hlt hlg hG
        go_wp2_with fail
        go_loopw [12, 13] (fun v12 v13 wr => ∃ (j : Nat) (M : List Nat) (A2 : Option Addr) (c2 : Nat), v12 = .bool true ∧ v13 = .int .i64 j ∧ j ≤ m.length ∧ Go.RowKit.Hid (Pair w wr f2 x2 t g2 A2 c2 M) ∧ Go.RowKit.Hid (Pair w wr sb wb t g A1 c1 L)) (fun _ v _ => m.length - (intOf v).toNat)
        case atStart => exact ⟨0, L, A1, c1, rfl, rfl, Nat.zero_le _, hp2, hp1⟩
        case round =>
          clear hp1 hp2
          obtain ⟨j, M, A2, c2, rfl, rfl, hj, hp2, hp1⟩ := hrel
          by_cases hlt : j < m.length
          · obtain ⟨a, ha⟩ : ∃ a, m[j]? = some a := ⟨_, List.getElem?_eq_getElem hlt⟩
            obtain ⟨k, n⟩ := a
            obtain ⟨hk, hn, bb, off, hA, hbl, hc0, hc1⟩ := HM.out j _ ha
            have ca0 : wr.cell? ⟨bb, off + j * 2, none⟩ = some (.int .u8 (k : Int)) := (hp2.out.st.bel.cell (p := ⟨bb, off + j * 2, none⟩) hbl).trans hc0
            have ca1 : wr.cell? ⟨bb, off + j * 2 + 1, none⟩ = some (.int .u32 (n : Int)) := (hp2.out.st.bel.cell (p := ⟨bb, off + j * 2 + 1, none⟩) hbl).trans hc1
            have c0 : wr.cell? ⟨g2, 0, none⟩ = some (.int .i64 t) := (blk_cell hp2.out.cell 0).trans rfl
            have c1' : wr.cell? ⟨g2, 1, none⟩ = some (.slice A2 (ints M).length c2) := (blk_cell hp2.out.cell 1).trans rfl
            have hk' : k < 256 := hk
            have hn' : n < 4294967296 := hn
            subst hA
            clear ha hc0 hc1 hbl hk hn
            go_upto_region 14 with fail
            go_region_with (
              go_at_call 12
              refine (do_any (w0 := w) (w := wr.drew) (rv := .slice A2 (ints M).length c2) hp2.out.st.tab hp2.out.st.set hp2.out.st.rv hp2.out.st.bel.drew h12 h22 hk' hn').mono ?_
              rintro e wx ⟨rv', rfl, hend⟩
              obtain ⟨A3, c3, rfl⟩ := Kd.R_slice hend.rv
              have hgx := blk_kept (W := wr.drew) hp2.out.cell hend.keep.kept (fun h => by rcases h with h | h <;> omega)
              have c0x : wx.cell? ⟨g2, 0, none⟩ = some (.int .i64 t) := (blk_cell hgx 0).trans rfl
              have c1x : wx.cell? ⟨g2, 1, none⟩ = some (.slice A2 (ints M).length c2) := (blk_cell hgx 1).trans rfl
              have f0x := blk_frozen hgx 0
              have f1x := blk_frozen hgx 1
              have HGX := Lib.hid hgx
              have HEND := Lib.hid hend
              clear hend hgx)
            all_goals go_wp2_with fail
            all_goals exact ⟨⟨j + 1, _, _, _, rfl, rfl, by omega, Lib.hid (Pair.step hp2.out.drew HEND.out HGX.out h0 hgw2 h12 h22), Lib.hid (Pair.other hp1.out.drew HEND.out hp2.out.drew.st.set HGX.out h0 hwr hd hu _ _)⟩, by simp only [intOf]; omega⟩
          · have c0 : wr.cell? ⟨g2, 0, none⟩ = some (.int .i64 t) := (blk_cell hp2.out.cell 0).trans rfl
            have c1' : wr.cell? ⟨g2, 1, none⟩ = some (.slice A2 (ints M).length c2) := (blk_cell hp2.out.cell 1).trans rfl
            go_wp2_with fail
            refine (same_any hp2.out.st.tab hp2.out.st.set hp2.out.st.rv (n := 0) (by decide)).mono ?_
            rintro e w4 ⟨rfl, hb4⟩
            have HP4 := Lib.hid (hp1.out.below hb4)
            have c0 : w4.cell? ⟨g, 0, none⟩ = some (.int .i64 t) := (blk_cell HP4.out.cell 0).trans rfl
            have c1' : w4.cell? ⟨g, 1, none⟩ = some (.slice A1 (ints L).length c1) := (blk_cell HP4.out.cell 1).trans rfl
            clear hb4
            go_wp2_with fail
            refine (same_any HP4.out.st.tab HP4.out.st.set HP4.out.st.rv (n := 0) (by decide)).mono ?_
            rintro e w5 ⟨rfl, hb5⟩
            have HP5 := Lib.hid (HP4.out.below hb5)
            clear hb5
            go_wp2_with fail
            refine (awake_any HP5.out.st.tab).mono ?_
            rintro e w6 ⟨rfl, hb6⟩
            have HB6 := Lib.hid (HP5.out.st.bel.trans (hb6.mono HP5.out.st.bel.size))
            clear hb6
            go_wp2_with fail
            go_ret
            exact ⟨rfl, HB6.out⟩
theorem forks_law (a : Int) (wf : (Lit.int .u16 a).wf = true) (A : Option Addr) (ca : Nat) (l : List (Nat × Nat)) (B : Option Addr) (cb : Nat) (m : List (Nat × Nat)) {w : World} (hl : Acts w A l) (hlen : l.length ≤ maxLen) (hm : Acts w B m) (hlen2 : m.length ≤ maxLen) (ht : Tab w) :
    Calls Tryd.prog 3 #[.int .u16 a, .slice A l.length ca, .slice B m.length cb] w fun e w' => e = .returned (.bool true) ∧ Below w.heap.size w w' := by
  obtain ⟨n, rfl, hn⟩ := nat_of wf rfl
  have h16 : IntKind.u16.max = 65535 := rfl
  exact forks n (by omega) A B ca cb l m hl hm hlen hlen2 ht
end Go.Proofs.YtkpdmbcefjjfgaaDoor.Fo
