/- do: a call on both, the set and the reference's list. -/
import Derived.Test.YtkpdmbcefjjfgaaDoorRq
import Derived.Test.YtkpdmbcefjjfgaaDoorRk
import Derived.Test.YtkpdmbcefjjfgaaDoorSi
namespace Go.Proofs.YtkpdmbcefjjfgaaDoor.Dq
open Go.RowKit Go.Proofs.YtkpdmbcefjjfgaaDoorW.PrintWords Go.Proofs.YtkpdmbcefjjfgaaDoorW.PrintLast Go.Proofs.YtkpdmbcefjjfgaaDoorW.PrintMore Wd Sa Sb Sc Sd Se Sf Si PAllocPlays

/-- The reference's list L, a row of the law's own (base B). -/
def Rv (B : Nat) (w : World) (rv : Value) (L : List Nat) : Prop := Kd.R (Kd.int .u32) 33 w B (fun k => some k = rv.ownBlock) rv (ints L)
theorem Rv.ne {B : Nat} {w : World} {rv : Value} {L : List Nat} (h : Rv B w rv L) {g t : Nat} {cells : Array Value} (hb : w.heap[g]? = some (.cells cells t (0, 0))) (ht : 33 ≠ t) : some g ≠ rv.ownBlock := Kd.R_ne h hb ht
theorem Rv.kept {B : Nat} {w w' : World} {rv : Value} {L : List Nat} {S : Nat → Prop} (h : Rv B w rv L) (hk : Kept w w' S) (hne : ∀ k, S k → some k ≠ rv.ownBlock) : Rv B w' rv L := Kd.R_kept h hk (fun k ho hs => hne k hs ho)
theorem Rv.below {B : Nat} {w w' : World} {rv : Value} {L : List Nat} (h : Rv B w rv L) (hb : Below w.heap.size w w') : Rv B w' rv L := Kd.R_below h hb
theorem boxes (w : World) (r a z : Array Value) :
    (((w.alloc (.cells r 29)).alloc (.cells a 35)).alloc (.cells z 29)).heap[w.heap.size]? = some (.cells r 29 (0, 0)) ∧ (((w.alloc (.cells r 29)).alloc (.cells a 35)).alloc (.cells z 29)).heap[w.heap.size + 1]? = some (.cells a 35 (0, 0))
    ∧ (((w.alloc (.cells r 29)).alloc (.cells a 35)).alloc (.cells z 29)).heap[w.heap.size + 1 + 1]? = some (.cells z 29 (0, 0)) ∧ Below w.heap.size w (((w.alloc (.cells r 29)).alloc (.cells a 35)).alloc (.cells z 29)) := by
  refine ⟨blk_alloc (blk_alloc (blk_new w _) _) _, ?_, ?_, below_alloc (below_alloc (below_alloc (Below.refl _ _) _) _) _⟩
  · have := blk_alloc (blk_new (w.alloc (.cells r 29)) (.cells a 35)) (.cells z 29)
    simpa using this
  · have := blk_new ((w.alloc (.cells r 29)).alloc (.cells a 35)) (.cells z 29)
    simpa using this
theorem keep_of {w0 w w' : World} {B : Nat} (hk : Kept w w' (fun _ => False)) (h0 : Below B w0 w) (h1 : Below B w0 w') : Keep No w w' := ⟨hk, h1.os.trans h0.os.symm, h1.tape.trans h0.tape.symm, h1.output.trans h0.output.symm⟩

/-- What stands at the end, in world W. -/
structure End (B : Nat) (w W : World) (sb wb T : Nat) (rv : Value) (L : List Nat) : Prop where
  set : SetAt W sb wb T L
  rv : Rv B W rv L
  keep : Keep (Two sb wb) w W
theorem End.store {B : Nat} {w W : World} {sb wb T : Nat} {rv : Value} {L : List Nat} (h : End B w W sb wb T rv L) {g : Nat} (hg : w.heap.size ≤ g) (h1 : sb ≠ g) (h2 : wb ≠ g) (h3 : some g ≠ rv.ownBlock) (i : Nat) (u : Value) : End B w (W.setCell ⟨g, i, none⟩ u) sb wb T rv L where
  set := h.set.kept (Kept.setCell (Kept.refl W (fun k => k = g)) (p := ⟨g, i, none⟩) (.inl rfl) u) h1 h2
  rv := h.rv.kept (Kept.setCell (Kept.refl W (fun k => k = g)) (p := ⟨g, i, none⟩) (.inl rfl) u) (fun _ hk => hk ▸ h3)
  keep := h.keep.setCell (p := ⟨g, i, none⟩) (.inr hg) u
theorem End.alloc {B : Nat} {w W : World} {sb wb T : Nat} {rv : Value} {L : List Nat} (h : End B w W sb wb T rv L) (o : Obj) : End B w (W.alloc o) sb wb T rv L where
  set := h.set.kept (Kept.alloc (Kept.refl W No) o) id id
  rv := h.rv.below (below_alloc (Below.refl _ _) o)
  keep := h.keep.then_ (Keep.of_below (below_alloc (Below.refl _ _) o) No) (fun _ h => h.elim)
set_option maxHeartbeats 2000000 in
theorem do_mark {w0 w : World} {sb wb T n kd : Nat} {L : List Nat} {rv : Value} (hs : SetAt w sb wb T L) (hr : Rv w0.heap.size w rv L) (hB : Below w0.heap.size w0 w) (h1 : w0.heap.size ≤ sb) (h2 : w0.heap.size ≤ wb)
    (hk : (kd : Int) % 4 = 0) (hkd : kd < 256) (hn : n < 4294967296) :
    Calls Tryd.prog 12 #[.pointer (some ⟨sb, 0, none⟩), .agg #[.int .i64 T, rv], .agg #[.int .u8 kd, .int .u32 n]] w fun e w' => ∃ rv', e = .returned (.tuple #[.agg #[.int .i64 T, rv'], .bool true]) ∧
      End w0.heap.size w w' sb wb T rv' (markOf T L n) := by
  have hu29 := Tryd.underlying29
  obtain ⟨ws, hok⟩ := SetAt.ok hs
  have HM := Lib.hid (Rp.mark_f T n hn L hok.up (Nat.le_trans hok.length_le hok.big) (L.length + 1) (Nat.lt_succ_self _))
  have hlt := SetAt.lt hs
  obtain ⟨b4, b5, b6, hb3⟩ := boxes w #[.int .i64 T, rv] #[.int .u8 kd, .int .u32 n] #[.int .i64 0, .slice none 0 0]
  have HS := Lib.hid (SetAt.below hs hb3 hlt.1 hlt.2)
  have HR := Lib.hid (hr.below hb3)
  have HB := Lib.hid (hB.trans (hb3.mono hB.size))
  have HK := Lib.hid (Keep.of_below hb3 (Two sb wb))
  have H4 := Lib.hid b4
  have H5 := Lib.hid b5
  have H6 := Lib.hid b6
  have hsz := hB.size
  clear hs hr hB b4 b5 b6 hb3 hok
  go_enter Tryd.func12, Tryd.ntmps12
  go_wp2_with fail
  refine (mark_any HS.out n hn).mono ?_
  rintro e w1 ⟨rfl, hs1, hk1⟩
  have n4 : ¬ Two sb wb w.heap.size := fun h => by rcases h with h | h <;> omega
  have n5 : ¬ Two sb wb (w.heap.size + 1) := fun h => by rcases h with h | h <;> omega
  have n6 : ¬ Two sb wb (w.heap.size + 1 + 1) := fun h => by rcases h with h | h <;> omega
  have hr1 : Rv w0.heap.size w1 rv L := HR.out.kept hk1.kept (fun k hk => by
    obtain ⟨ws, _, q1, q2⟩ := HS.out
    rcases hk with rfl | rfl
    · exact HR.out.ne q1 (by decide)
    · exact HR.out.ne q2 (by decide))
  have H14 := Lib.hid (blk_kept H4.out hk1.kept n4)
  have H15 := Lib.hid (blk_kept H5.out hk1.kept n5)
  have H16 := Lib.hid (blk_kept H6.out hk1.kept n6)
  have HS1 := Lib.hid hs1
  have HR1 := Lib.hid hr1
  have HB1 := Lib.hid (hk1.below HB.out HB.out.size (two_ge h1 h2))
  have HK1 := Lib.hid (HK.out.then_ hk1 (fun _ h => .inl h))
  clear hs1 hk1 hr1 n4 n5 n6 HS HR HB HK H4 H5 H6
  have c40 : w1.cell? ⟨w.heap.size, 0, none⟩ = some (.int .i64 T) := (blk_cell H14.out 0).trans rfl
  have c41 : w1.cell? ⟨w.heap.size, 1, none⟩ = some rv := (blk_cell H14.out 1).trans rfl
  have c51 : w1.cell? ⟨w.heap.size + 1, 1, none⟩ = some (.int .u32 n) := (blk_cell H15.out 1).trans rfl
  go_wp2_with fail
  refine (reliquaryref17_Set_Mark.keeps (L.length + 1) T (fun k => some k = rv.ownBlock) rv (ints L) n T (ints (markOf T L n)) (markErr T L n) w0 w1 HB1.out HR1.out (fun _ h => h) HM.out).mono ?_
  rintro e w2 ⟨v1, rfl, ho, hb2, hk2⟩
  obtain ⟨A1, c1, rfl⟩ := Kd.R_slice ho
  have hkp : Keep No w1 w2 := keep_of hk2 HB1.out hb2
  have H24 := Lib.hid (blk_kept H14.out hkp.kept id)
  have H26 := Lib.hid (blk_kept H16.out hkp.kept id)
  have HS2 := Lib.hid (SetAt.keep HS1.out hkp id id)
  have HR2 := Lib.hid (show Rv w0.heap.size w2 (.slice A1 (ints (markOf T L n)).length c1) (markOf T L n) from Kd.R_tight rfl ho)
  have HK2 := Lib.hid (HK1.out.then_ hkp (fun _ h => h.elim))
  clear ho hb2 hk2 hkp c40 c41 c51 H14 H15 H16 HS1 HR1 HB1 HK1
  have hlt6 : w.heap.size + 1 + 1 < w2.heap.size := blk_lt H26.out
  have c60 : w2.cell? ⟨w.heap.size + 1 + 1, 0, none⟩ = some (.int .i64 0) := (blk_cell H26.out 0).trans rfl
  have c61 : w2.cell? ⟨w.heap.size + 1 + 1, 1, none⟩ = some (.slice none 0 0) := (blk_cell H26.out 1).trans rfl
  have f60 := blk_frozen H26.out 0
  have f61 := blk_frozen H26.out 1
  go_wp2_with fail
  refine bodyPost_ret (results_ct rfl _ _ (w.heap.size + 1 + 1) 29 #[.int .i64 T, .slice A1 (ints (markOf T L n)).length c1] (0, 0) _ rfl ?cell Tryd.underlying29 rfl (by kernel_rfl)) rfl ?_
  case cell =>
    refine blk_alloc ?_ _
    refine blk_put (cs := #[.int .i64 T, .slice none 0 0]) ?_ 1 _ rfl
    refine blk_put (cs := #[.int .i64 0, .slice none 0 0]) ?_ 0 _ rfl
    exact H26.out
  have hg6 : some (w.heap.size + 1 + 1) ≠ (Value.slice A1 (ints (markOf T L n)).length c1).ownBlock := HR2.out.ne H26.out (by decide)
  exact ⟨_, rfl, End.alloc (End.store (End.store ⟨HS2.out, HR2.out, HK2.out⟩ (by omega) (by omega) (by omega) hg6 0 _) (by omega) (by omega) (by omega) hg6 1 _) _⟩
set_option maxHeartbeats 2000000 in
theorem do_clear {w0 w : World} {sb wb T n kd : Nat} {L : List Nat} {rv : Value} (hs : SetAt w sb wb T L) (hr : Rv w0.heap.size w rv L) (hB : Below w0.heap.size w0 w) (h1 : w0.heap.size ≤ sb) (h2 : w0.heap.size ≤ wb)
    (hk : (kd : Int) % 4 = 1) (hkd : kd < 256) (hn : n < 4294967296) :
    Calls Tryd.prog 12 #[.pointer (some ⟨sb, 0, none⟩), .agg #[.int .i64 T, rv], .agg #[.int .u8 kd, .int .u32 n]] w fun e w' => ∃ rv', e = .returned (.tuple #[.agg #[.int .i64 T, rv'], .bool true]) ∧
      End w0.heap.size w w' sb wb T rv' (clearOf T L n) := by
  have hu29 := Tryd.underlying29
  obtain ⟨ws, hok⟩ := SetAt.ok hs
  have HM := Lib.hid (Rp.clear_f T n hn L hok.up (Nat.le_trans hok.length_le hok.big) (L.length + 1) (Nat.lt_succ_self _))
  have hlt := SetAt.lt hs
  obtain ⟨b4, b5, b6, hb3⟩ := boxes w #[.int .i64 T, rv] #[.int .u8 kd, .int .u32 n] #[.int .i64 0, .slice none 0 0]
  have HS := Lib.hid (SetAt.below hs hb3 hlt.1 hlt.2)
  have HR := Lib.hid (hr.below hb3)
  have HB := Lib.hid (hB.trans (hb3.mono hB.size))
  have HK := Lib.hid (Keep.of_below hb3 (Two sb wb))
  have H4 := Lib.hid b4
  have H5 := Lib.hid b5
  have H6 := Lib.hid b6
  have hsz := hB.size
  clear hs hr hB b4 b5 b6 hb3 hok
  go_enter Tryd.func12, Tryd.ntmps12
  go_wp2_with fail
  refine (clear_any HS.out n hn).mono ?_
  rintro e w1 ⟨rfl, hs1, hk1⟩
  have n4 : ¬ Two sb wb w.heap.size := fun h => by rcases h with h | h <;> omega
  have n5 : ¬ Two sb wb (w.heap.size + 1) := fun h => by rcases h with h | h <;> omega
  have n6 : ¬ Two sb wb (w.heap.size + 1 + 1) := fun h => by rcases h with h | h <;> omega
  have hr1 : Rv w0.heap.size w1 rv L := HR.out.kept hk1.kept (fun k hk => by
    obtain ⟨ws, _, q1, q2⟩ := HS.out
    rcases hk with rfl | rfl
    · exact HR.out.ne q1 (by decide)
    · exact HR.out.ne q2 (by decide))
  have H14 := Lib.hid (blk_kept H4.out hk1.kept n4)
  have H15 := Lib.hid (blk_kept H5.out hk1.kept n5)
  have H16 := Lib.hid (blk_kept H6.out hk1.kept n6)
  have HS1 := Lib.hid hs1
  have HR1 := Lib.hid hr1
  have HB1 := Lib.hid (hk1.below HB.out HB.out.size (two_ge h1 h2))
  have HK1 := Lib.hid (HK.out.then_ hk1 (fun _ h => .inl h))
  clear hs1 hk1 hr1 n4 n5 n6 HS HR HB HK H4 H5 H6
  have c40 : w1.cell? ⟨w.heap.size, 0, none⟩ = some (.int .i64 T) := (blk_cell H14.out 0).trans rfl
  have c41 : w1.cell? ⟨w.heap.size, 1, none⟩ = some rv := (blk_cell H14.out 1).trans rfl
  have c51 : w1.cell? ⟨w.heap.size + 1, 1, none⟩ = some (.int .u32 n) := (blk_cell H15.out 1).trans rfl
  go_wp2_with fail
  refine (reliquaryref17_Set_Clear.keeps (L.length + 1) T (fun k => some k = rv.ownBlock) rv (ints L) n T (ints (clearOf T L n)) (clearErr T L n) w0 w1 HB1.out HR1.out (fun _ h => h) HM.out).mono ?_
  rintro e w2 ⟨v1, rfl, ho, hb2, hk2⟩
  obtain ⟨A1, c1, rfl⟩ := Kd.R_slice ho
  have hkp : Keep No w1 w2 := keep_of hk2 HB1.out hb2
  have H24 := Lib.hid (blk_kept H14.out hkp.kept id)
  have H26 := Lib.hid (blk_kept H16.out hkp.kept id)
  have HS2 := Lib.hid (SetAt.keep HS1.out hkp id id)
  have HR2 := Lib.hid (show Rv w0.heap.size w2 (.slice A1 (ints (clearOf T L n)).length c1) (clearOf T L n) from Kd.R_tight rfl ho)
  have HK2 := Lib.hid (HK1.out.then_ hkp (fun _ h => h.elim))
  clear ho hb2 hk2 hkp c40 c41 c51 H14 H15 H16 HS1 HR1 HB1 HK1
  have hlt6 : w.heap.size + 1 + 1 < w2.heap.size := blk_lt H26.out
  have c60 : w2.cell? ⟨w.heap.size + 1 + 1, 0, none⟩ = some (.int .i64 0) := (blk_cell H26.out 0).trans rfl
  have c61 : w2.cell? ⟨w.heap.size + 1 + 1, 1, none⟩ = some (.slice none 0 0) := (blk_cell H26.out 1).trans rfl
  have f60 := blk_frozen H26.out 0
  have f61 := blk_frozen H26.out 1
  go_wp2_with fail
  refine bodyPost_ret (results_ct rfl _ _ (w.heap.size + 1 + 1) 29 #[.int .i64 T, .slice A1 (ints (clearOf T L n)).length c1] (0, 0) _ rfl ?cell Tryd.underlying29 rfl (by kernel_rfl)) rfl ?_
  case cell =>
    refine blk_alloc ?_ _
    refine blk_put (cs := #[.int .i64 T, .slice none 0 0]) ?_ 1 _ rfl
    refine blk_put (cs := #[.int .i64 0, .slice none 0 0]) ?_ 0 _ rfl
    exact H26.out
  have hg6 : some (w.heap.size + 1 + 1) ≠ (Value.slice A1 (ints (clearOf T L n)).length c1).ownBlock := HR2.out.ne H26.out (by decide)
  exact ⟨_, rfl, End.alloc (End.store (End.store ⟨HS2.out, HR2.out, HK2.out⟩ (by omega) (by omega) (by omega) hg6 0 _) (by omega) (by omega) (by omega) hg6 1 _) _⟩
set_option maxHeartbeats 2000000 in
theorem do_take {w0 w : World} {sb wb T n kd : Nat} {L : List Nat} {rv : Value} (ht : Tab w) (hs : SetAt w sb wb T L) (hr : Rv w0.heap.size w rv L) (hB : Below w0.heap.size w0 w) (h1 : w0.heap.size ≤ sb) (h2 : w0.heap.size ≤ wb)
    (hk0 : ((kd : Int) % 4 == 0) = false) (hk1 : ((kd : Int) % 4 == 1) = false) (hkd : kd < 256) :
    Calls Tryd.prog 12 #[.pointer (some ⟨sb, 0, none⟩), .agg #[.int .i64 T, rv], .agg #[.int .u8 kd, .int .u32 n]] w fun e w' => ∃ rv', e = .returned (.tuple #[.agg #[.int .i64 T, rv'], .bool true]) ∧
      End w0.heap.size w w' sb wb T rv' (takeOf T L) := by
  have hu29 := Tryd.underlying29
  obtain ⟨ws, hok⟩ := SetAt.ok hs
  have HM := Lib.hid (Rq.take_f hok (T + L.length + 1) (Nat.lt_succ_self _))
  have hlt := SetAt.lt hs
  obtain ⟨b4, b5, b6, hb3⟩ := boxes w #[.int .i64 T, rv] #[.int .u8 kd, .int .u32 n] #[.int .i64 0, .slice none 0 0]
  have HS := Lib.hid (SetAt.below hs hb3 hlt.1 hlt.2)
  have HT := Lib.hid (Tab.below ht hb3 (Tab.pos ht))
  have HR := Lib.hid (hr.below hb3)
  have HB := Lib.hid (hB.trans (hb3.mono hB.size))
  have HK := Lib.hid (Keep.of_below hb3 (Two sb wb))
  have H4 := Lib.hid b4
  have H6 := Lib.hid b6
  have hsz := hB.size
  clear hs hr hB b4 b5 b6 hb3 hok ht
  go_enter Tryd.func12, Tryd.ntmps12
  go_wp2_with fail
  refine (take_any HS.out HT.out).mono ?_
  rintro e w1 ⟨rfl, hs1, hk1⟩
  have n4 : ¬ Two sb wb w.heap.size := fun h => by rcases h with h | h <;> omega
  have n6 : ¬ Two sb wb (w.heap.size + 1 + 1) := fun h => by rcases h with h | h <;> omega
  have hr1 : Rv w0.heap.size w1 rv L := HR.out.kept hk1.kept (fun k hk => by
    obtain ⟨ws, _, q1, q2⟩ := HS.out
    rcases hk with rfl | rfl
    · exact HR.out.ne q1 (by decide)
    · exact HR.out.ne q2 (by decide))
  have H14 := Lib.hid (blk_kept H4.out hk1.kept n4)
  have H16 := Lib.hid (blk_kept H6.out hk1.kept n6)
  have HS1 := Lib.hid hs1
  have HR1 := Lib.hid hr1
  have HB1 := Lib.hid (hk1.below HB.out HB.out.size (two_ge h1 h2))
  have HK1 := Lib.hid (HK.out.then_ hk1 (fun _ h => .inl h))
  clear hs1 hk1 hr1 n4 n6 HS HT HR HB HK H4 H6
  have c40 : w1.cell? ⟨w.heap.size, 0, none⟩ = some (.int .i64 T) := (blk_cell H14.out 0).trans rfl
  have c41 : w1.cell? ⟨w.heap.size, 1, none⟩ = some rv := (blk_cell H14.out 1).trans rfl
  go_wp2_with fail
  refine (reliquaryref17_Set_Take.keeps (T + L.length + 1) T (fun k => some k = rv.ownBlock) rv (ints L) T (ints (takeOf T L)) (takeNum T L : Nat) (takeErr T L) w0 w1 HB1.out HR1.out HM.out).mono ?_
  rintro e w2 ⟨v1, rfl, ho, hb2, hk2⟩
  obtain ⟨A1, c1, rfl⟩ := Kd.R_slice ho
  have hkp : Keep No w1 w2 := keep_of hk2 HB1.out hb2
  have H24 := Lib.hid (blk_kept H14.out hkp.kept id)
  have H26 := Lib.hid (blk_kept H16.out hkp.kept id)
  have HS2 := Lib.hid (SetAt.keep HS1.out hkp id id)
  have HR2 := Lib.hid (show Rv w0.heap.size w2 (.slice A1 (ints (takeOf T L)).length c1) (takeOf T L) from Kd.R_tight rfl ho)
  have HK2 := Lib.hid (HK1.out.then_ hkp (fun _ h => h.elim))
  clear ho hb2 hk2 hkp c40 c41 H14 H16 HS1 HR1 HB1 HK1
  have hlt6 : w.heap.size + 1 + 1 < w2.heap.size := blk_lt H26.out
  have c60 : w2.cell? ⟨w.heap.size + 1 + 1, 0, none⟩ = some (.int .i64 0) := (blk_cell H26.out 0).trans rfl
  have c61 : w2.cell? ⟨w.heap.size + 1 + 1, 1, none⟩ = some (.slice none 0 0) := (blk_cell H26.out 1).trans rfl
  have f60 := blk_frozen H26.out 0
  have f61 := blk_frozen H26.out 1
  have c40 : w2.cell? ⟨w.heap.size, 0, none⟩ = some (.int .i64 T) := (blk_cell H24.out 0).trans rfl
  have c41 : w2.cell? ⟨w.heap.size, 1, none⟩ = some rv := (blk_cell H24.out 1).trans rfl
  have f40 := blk_frozen H24.out 0
  have f41 := blk_frozen H24.out 1
  go_wp2_with fail
  refine bodyPost_ret (results_ct rfl _ _ (w.heap.size + 1 + 1) 29 #[.int .i64 T, .slice A1 (ints (takeOf T L)).length c1] (0, 0) _ rfl ?cell Tryd.underlying29 rfl (by kernel_rfl)) rfl ?_
  case cell =>
    refine blk_put (cs := #[.int .i64 T, .slice none 0 0]) ?_ 1 _ rfl
    refine blk_put (cs := #[.int .i64 0, .slice none 0 0]) ?_ 0 _ rfl
    refine blk_far ?_ (p := ⟨w.heap.size, 1, none⟩) (by simp only []; omega) _
    refine blk_far ?_ (p := ⟨w.heap.size, 0, none⟩) (by simp only []; omega) _
    exact H26.out
  have hg6 : some (w.heap.size + 1 + 1) ≠ (Value.slice A1 (ints (takeOf T L)).length c1).ownBlock := HR2.out.ne H26.out (by decide)
  have hg4 : some w.heap.size ≠ (Value.slice A1 (ints (takeOf T L)).length c1).ownBlock := HR2.out.ne H24.out (by decide)
  exact ⟨_, rfl, End.store (End.store (End.store (End.store ⟨HS2.out, HR2.out, HK2.out⟩ (by omega) (by omega) (by omega) hg4 0 _) (by omega) (by omega) (by omega) hg4 1 _) (by omega) (by omega) (by omega) hg6 0 _) (by omega) (by omega) (by omega) hg6 1 _⟩
/-- What a call makes of the list. -/
def stepOf (T : Nat) (L : List Nat) (kd n : Nat) : List Nat := if kd % 4 = 0 then markOf T L n else if kd % 4 = 1 then clearOf T L n else takeOf T L
theorem do_any {w0 w : World} {sb wb T n kd : Nat} {L : List Nat} {rv : Value} (ht : Tab w) (hs : SetAt w sb wb T L) (hr : Rv w0.heap.size w rv L) (hB : Below w0.heap.size w0 w) (h1 : w0.heap.size ≤ sb) (h2 : w0.heap.size ≤ wb)
    (hkd : kd < 256) (hn : n < 4294967296) :
    Calls Tryd.prog 12 #[.pointer (some ⟨sb, 0, none⟩), .agg #[.int .i64 T, rv], .agg #[.int .u8 kd, .int .u32 n]] w fun e w' => ∃ rv', e = .returned (.tuple #[.agg #[.int .i64 T, rv'], .bool true]) ∧
      End w0.heap.size w w' sb wb T rv' (stepOf T L kd n) := by
  unfold stepOf
  rcases (show kd % 4 = 0 ∨ kd % 4 = 1 ∨ (¬ kd % 4 = 0 ∧ ¬ kd % 4 = 1) by omega) with h | h | ⟨ha, hb⟩
  · rw [if_pos h]
    exact do_mark hs hr hB h1 h2 (by omega) hkd hn
  · rw [if_neg (by omega), if_pos h]
    exact do_clear hs hr hB h1 h2 (by omega) hkd hn
  · rw [if_neg ha, if_neg hb]
    exact do_take ht hs hr hB h1 h2 (beq_eq_false_iff_ne.2 (by omega)) (beq_eq_false_iff_ne.2 (by omega)) hkd
end Go.Proofs.YtkpdmbcefjjfgaaDoor.Dq
