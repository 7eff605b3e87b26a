/- Contracts of the set's functions: a set is one block of three places and the row of its words. -/
import Derived.Test.YtkpdmbcefjjfgaaDoorS0
import Derived.Test.YtkpdmbcefjjfgaaDoorWd
namespace Go.Proofs.YtkpdmbcefjjfgaaDoor.Sa
open Go.RowKit Go.Proofs.YtkpdmbcefjjfgaaDoorW.PrintWords Go.Proofs.YtkpdmbcefjjfgaaDoorW.PrintLast Go.Proofs.YtkpdmbcefjjfgaaDoorW.PrintMore Wd

theorem look_in {sb : Nat} {T n : Int} {w : World}
    (h0 : w.cell? ⟨sb, 0, none⟩ = some (.int .i64 T)) (hn : n < T) (hn0 : 0 ≤ n) (hT : T ≤ 65536) :
    Calls Tryd.prog 28 #[.pointer (some ⟨sb, 0, none⟩), .int .u32 n] w fun e w' => e = .returned (.int .i64 0) ∧ w = w' := by
  have hd : decide (T ≤ n) = false := decide_eq_false (by omega)
  go_enter Tryd.func28, Tryd.ntmps28
  go_wp2
  go_ret
  exact ⟨rfl, rfl⟩
theorem look_out {sb : Nat} {T n : Int} {w : World}
    (h0 : w.cell? ⟨sb, 0, none⟩ = some (.int .i64 T)) (hn : T ≤ n) (hn0 : 0 ≤ n) (hn3 : n < 4294967296) :
    Calls Tryd.prog 28 #[.pointer (some ⟨sb, 0, none⟩), .int .u32 n] w fun e w' => e = .returned (.int .i64 43) ∧ w = w' := by
  have hd : decide (T ≤ n) = true := decide_eq_true (by omega)
  go_enter Tryd.func28, Tryd.ntmps28
  go_wp2
  go_ret
  exact ⟨rfl, rfl⟩
theorem look_nil {n : Int} {w : World} :
    Calls Tryd.prog 28 #[.pointer none, .int .u32 n] w fun e w' => e = .returned (.int .i64 1) ∧ w = w' := by
  go_enter Tryd.func28, Tryd.ntmps28
  go_wp2
  go_ret
  exact ⟨rfl, rfl⟩
theorem has_nil {n : Int} {w : World} :
    Calls Tryd.prog 18 #[.pointer none, .int .u32 n] w fun e w' => e = .returned (.bool false) ∧ w = w' := by
  go_enter Tryd.func18, Tryd.ntmps18
  go_wp2
  go_ret
  exact ⟨rfl, rfl⟩
theorem has_out {sb : Nat} {T n : Int} {w : World}
    (h0 : w.cell? ⟨sb, 0, none⟩ = some (.int .i64 T)) (hn : T ≤ n) (hn0 : 0 ≤ n) (hn3 : n < 4294967296) :
    Calls Tryd.prog 18 #[.pointer (some ⟨sb, 0, none⟩), .int .u32 n] w fun e w' => e = .returned (.bool false) ∧ w = w' := by
  have hd : decide (n < T) = false := decide_eq_false (by omega)
  go_enter Tryd.func18, Tryd.ntmps18
  go_wp2
  go_ret
  exact ⟨rfl, rfl⟩
theorem has_in {sb wb : Nat} {T n x : Int} {w : World} {len : Nat}
    (h0 : w.cell? ⟨sb, 0, none⟩ = some (.int .i64 T)) (h2 : w.cell? ⟨sb, 2, none⟩ = some (.slice (some ⟨wb, 0, none⟩) len len))
    (hc : w.cell? ⟨wb, (n / 64).toNat, none⟩ = some (.int .u64 x)) (hn0 : 0 ≤ n) (hn : n < T) (hT : T ≤ 65536) (hl : n / 64 < len) :
    Calls Tryd.prog 18 #[.pointer (some ⟨sb, 0, none⟩), .int .u32 n] w fun e w' => e = .returned (.bool (bits BinOp.and IntKind.u64 (x / 2 ^ (n % 64).toNat) 1 != 0)) ∧ w = w' := by
  go_enter Tryd.func18, Tryd.ntmps18
  go_wp2_with fail
  go_ret
  exact ⟨rfl, rfl⟩

theorem mark_in {sb wb : Nat} {T u n x : Int} {w : World} {len : Nat}
    (h0 : w.cell? ⟨sb, 0, none⟩ = some (.int .i64 T)) (h1 : w.cell? ⟨sb, 1, none⟩ = some (.int .i64 u)) (h2 : w.cell? ⟨sb, 2, none⟩ = some (.slice (some ⟨wb, 0, none⟩) len len))
    (hc : w.cell? ⟨wb, (n / 64).toNat, none⟩ = some (.int .u64 x)) (hn0 : 0 ≤ n) (hn : n < T) (hT : T ≤ 65536) (hl : n / 64 < len)
    (f1 : w.frozen? ⟨sb, 1, none⟩ = false) (fc : w.frozen? ⟨wb, (n / 64).toNat, none⟩ = false) (hne : sb ≠ wb)
    (hb : (bits BinOp.and IntKind.u64 (x / 2 ^ (n % 64).toNat) 1 != 0) = false) :
    Calls Tryd.prog 16 #[.pointer (some ⟨sb, 0, none⟩), .int .u32 n] w fun e w' => e = .returned (.int .i64 0) ∧ w' = (w.setCell ⟨wb, (n / 64).toNat, none⟩ (.int .u64 (bits .or .u64 x (IntKind.u64.wrap (2 ^ (n % 64).toNat))))).setCell ⟨sb, 1, none⟩ (.int .i64 (wrap64 (u + 1))) := by
  go_enter Tryd.func16, Tryd.ntmps16
  go_wp2_with fail
  refine (look_in h0 hn hn0 hT).mono ?_
  rintro e w' ⟨rfl, rfl⟩
  go_wp2_with fail
  refine (has_in h0 h2 hc hn0 hn hT hl).mono ?_
  rintro e w' ⟨rfl, rfl⟩
  go_wp2_with fail
  go_ret
  exact ⟨rfl, rfl⟩
theorem clear_in {sb wb : Nat} {T u n x : Int} {w : World} {len : Nat}
    (h0 : w.cell? ⟨sb, 0, none⟩ = some (.int .i64 T)) (h1 : w.cell? ⟨sb, 1, none⟩ = some (.int .i64 u)) (h2 : w.cell? ⟨sb, 2, none⟩ = some (.slice (some ⟨wb, 0, none⟩) len len))
    (hc : w.cell? ⟨wb, (n / 64).toNat, none⟩ = some (.int .u64 x)) (hn0 : 0 ≤ n) (hn : n < T) (hT : T ≤ 65536) (hl : n / 64 < len)
    (f1 : w.frozen? ⟨sb, 1, none⟩ = false) (fc : w.frozen? ⟨wb, (n / 64).toNat, none⟩ = false) (hne : sb ≠ wb)
    (hb : (bits BinOp.and IntKind.u64 (x / 2 ^ (n % 64).toNat) 1 != 0) = true) :
    Calls Tryd.prog 17 #[.pointer (some ⟨sb, 0, none⟩), .int .u32 n] w fun e w' => e = .returned (.int .i64 0) ∧ w' = (w.setCell ⟨wb, (n / 64).toNat, none⟩ (.int .u64 (bits .andNot .u64 x (IntKind.u64.wrap (2 ^ (n % 64).toNat))))).setCell ⟨sb, 1, none⟩ (.int .i64 (wrap64 (u - 1))) := by
  go_enter Tryd.func17, Tryd.ntmps17
  go_wp2_with fail
  refine (look_in h0 hn hn0 hT).mono ?_
  rintro e w' ⟨rfl, rfl⟩
  go_wp2_with fail
  refine (has_in h0 h2 hc hn0 hn hT hl).mono ?_
  rintro e w' ⟨rfl, rfl⟩
  go_wp2_with fail
  go_ret
  exact ⟨rfl, rfl⟩
theorem ctz_in {x q k : Int} {w : World} (hx : (x == 0) = false) (hq : IntKind.u64.wrap (bits BinOp.and IntKind.u64 x (IntKind.u64.wrap (-x)) * 285870213051353865) / 288230376151711744 = q)
    (hq0 : 0 ≤ q) (hq1 : q < 64) (hc : w.cell? ⟨0, q.toNat, none⟩ = some (.int .u8 k)) (hk0 : 0 ≤ k) (hk : k < 64) :
    Calls Tryd.prog 27 #[.int .u64 x] w fun e w' => e = .returned (.int .i64 k) ∧ w = w' := by
  go_enter Tryd.func27, Tryd.ntmps27
  go_wp2_with fail
  go_ret
  exact ⟨rfl, rfl⟩

/-- The set at block sb, its words at block wb: T there are, L are used. -/
def SetAt (w : World) (sb wb T : Nat) (L : List Nat) : Prop :=
  ∃ ws : List Nat, Ok T L ws ∧ w.heap[sb]? = some (.cells #[.int .i64 T, .int .i64 L.length, .slice (some ⟨wb, 0, none⟩) ws.length ws.length] 53 (0, 0))
    ∧ w.heap[wb]? = some (.cells (ws.map (fun x : Nat => Value.int .u64 x)).toArray 58 (0, 0))
def No : Nat → Prop := fun _ => False
def Two (sb wb : Nat) : Nat → Prop := fun k => k = sb ∨ k = wb
/-- What a call leaves: all blocks but those of S, and what is outside. -/
structure Keep (S : Nat → Prop) (w w' : World) : Prop where
  kept : Kept w w' S
  os : w'.os = w.os
  tape : w'.tape = w.tape
  output : w'.output = w.output
section
variable {w w' w2 : World} {S : Nat → Prop}
theorem Keep.refl (S : Nat → Prop) (w : World) : Keep S w w := ⟨Kept.refl _ _, rfl, rfl, rfl⟩
theorem Keep.drewN (h : Keep S w w') (n : Nat) : Keep S w (w'.drewN n) := ⟨Kept.drewN h.kept n, h.os, h.tape, h.output⟩
theorem Keep.of_below (h : Below w.heap.size w w') (S : Nat → Prop) : Keep S w w' := ⟨Kept.of_below h S, h.os, h.tape, h.output⟩
theorem Keep.then_ {S2 : Nat → Prop} (h : Keep S w w') (k : Keep S2 w' w2) (hs : ∀ k, S2 k → S k ∨ w.heap.size ≤ k) : Keep S w w2 := ⟨h.kept.then_ k.kept hs, k.os.trans h.os, k.tape.trans h.tape, k.output.trans h.output⟩
theorem Keep.setCell (h : Keep S w w') {p : Addr} (hp : S p.block ∨ w.heap.size ≤ p.block) (u : Value) : Keep S w (w'.setCell p u) := ⟨h.kept.setCell hp u, h.os, h.tape, h.output⟩
theorem Keep.below {B : Nat} {w0 : World} (h : Keep S w w') (hB : Below B w0 w) (hb : B ≤ w.heap.size) (hS : ∀ k, S k → B ≤ k) : Below B w0 w' :=
  ⟨h.os.trans hB.os, h.tape.trans hB.tape, h.output.trans hB.output, Nat.le_trans hB.size h.kept.1, fun k hk => (h.kept.2 k (by omega) (fun hs => by have := hS k hs; omega)).trans (hB.block k hk)⟩
end
section
variable {w w' : World} {sb wb T : Nat} {L : List Nat} {ws : List Nat}
theorem SetAt.kept {S : Nat → Prop} (h : SetAt w sb wb T L) (hk : Kept w w' S) (h1 : ¬ S sb) (h2 : ¬ S wb) : SetAt w' sb wb T L := by
  obtain ⟨ws, hok, hs, hw⟩ := h
  exact ⟨ws, hok, blk_kept hs hk h1, blk_kept hw hk h2⟩
theorem word_cell {i : Nat} {x : Nat} (hw : w.heap[wb]? = some (.cells (ws.map (fun x : Nat => Value.int .u64 x)).toArray 58 (0, 0))) (hx : ws[i]? = some x) : w.cell? ⟨wb, i, none⟩ = some (.int .u64 x) := by
  rw [blk_cell hw i]
  simp [hx]
end
theorem has_any {w : World} {sb wb T : Nat} {L : List Nat} (h : SetAt w sb wb T L) (n : Nat) (hn : n < 4294967296) :
    Calls Tryd.prog 18 #[.pointer (some ⟨sb, 0, none⟩), .int .u32 n] w fun e w' => e = .returned (.bool (decide (n ∈ L))) ∧ w = w' := by
  obtain ⟨ws, hok, hs, hw⟩ := h
  have h0 : w.cell? ⟨sb, 0, none⟩ = some (.int .i64 T) := (blk_cell hs 0).trans rfl
  have h2 : w.cell? ⟨sb, 2, none⟩ = some (.slice (some ⟨wb, 0, none⟩) ws.length ws.length) := (blk_cell hs 2).trans rfl
  rcases Nat.lt_or_ge n T with hlt | hge
  · obtain ⟨x, hx, hx64, hb⟩ := hok.get hlt
    have hc := word_cell hw hx
    have e : ((n : Int) / 64).toNat = n / 64 := by omega
    have e2 : ((n : Int) % 64).toNat = n % 64 := by omega
    have hlen := hok.len
    have hbig := hok.big
    have := has_in (n := n) h0 h2 (by rw [e]; exact hc) (by omega) (by omega) (by omega) (by omega)
    rw [e2, has_bit x _ hx64, hb] at this
    exact this
  · have hnL : n ∉ L := fun hm => by have := hok.lt n hm; omega
    have : decide (n ∈ L) = false := decide_eq_false hnL
    rw [this]
    exact has_out h0 (by omega) (by omega) (by omega)

/-! ### Mark, Clear: what they tell and leave -/
def markErr (T : Nat) (L : List Nat) (n : Nat) : Int := if T ≤ n then 43 else if n ∈ L then 23 else 0
def markOf (T : Nat) (L : List Nat) (n : Nat) : List Nat := if T ≤ n then L else if n ∈ L then L else ins n L
def clearErr (T : Nat) (L : List Nat) (n : Nat) : Int := if T ≤ n then 43 else if n ∈ L then 0 else 22
def clearOf (T : Nat) (L : List Nat) (n : Nat) : List Nat := if T ≤ n then L else L.filter (· ≠ n)
theorem set_words {ws : List Nat} {i y : Nat} : (ws.map (fun x : Nat => Value.int .u64 x)).toArray.setIfInBounds i (Value.int .u64 (y : Int)) = ((ws.set i y).map (fun x : Nat => Value.int .u64 x)).toArray := by
  simp [List.map_set]
theorem set_two {w : World} {sb wb T u : Nat} {ws : List Nat} {i y : Nat} {u' : Nat}
    (hs : w.heap[sb]? = some (.cells #[.int .i64 T, .int .i64 u, .slice (some ⟨wb, 0, none⟩) ws.length ws.length] 53 (0, 0)))
    (hw : w.heap[wb]? = some (.cells (ws.map (fun x : Nat => Value.int .u64 x)).toArray 58 (0, 0))) :
    ((w.setCell ⟨wb, i, none⟩ (.int .u64 (y : Int))).setCell ⟨sb, 1, none⟩ (.int .i64 (u' : Int))).heap[sb]? = some (.cells #[.int .i64 T, .int .i64 u', .slice (some ⟨wb, 0, none⟩) (ws.set i y).length (ws.set i y).length] 53 (0, 0))
    ∧ ((w.setCell ⟨wb, i, none⟩ (.int .u64 (y : Int))).setCell ⟨sb, 1, none⟩ (.int .i64 (u' : Int))).heap[wb]? = some (.cells ((ws.set i y).map (fun x : Nat => Value.int .u64 x)).toArray 58 (0, 0))
    ∧ Keep (Two sb wb) w ((w.setCell ⟨wb, i, none⟩ (.int .u64 (y : Int))).setCell ⟨sb, 1, none⟩ (.int .i64 (u' : Int))) := by
  have hne : sb ≠ wb := blk_ne hs hw (by decide)
  refine ⟨?_, ?_, ?_⟩
  · rw [List.length_set]
    exact blk_put (blk_far hs (p := ⟨wb, i, none⟩) hne _) 1 _ rfl
  · exact blk_far (blk_put hw i _ set_words) (p := ⟨sb, 1, none⟩) hne.symm _
  · exact Keep.setCell (Keep.setCell (Keep.refl _ w) (p := ⟨wb, i, none⟩) (.inl (.inr rfl)) _) (p := ⟨sb, 1, none⟩) (.inl (.inl rfl)) _
theorem mark_any {w : World} {sb wb T : Nat} {L : List Nat} (h : SetAt w sb wb T L) (n : Nat) (hn : n < 4294967296) :
    Calls Tryd.prog 16 #[.pointer (some ⟨sb, 0, none⟩), .int .u32 n] w fun e w' => e = .returned (.int .i64 (markErr T L n)) ∧ SetAt w' sb wb T (markOf T L n) ∧ Keep (Two sb wb) w w' := by
  have h' := h
  obtain ⟨ws, hok, hs, hw⟩ := h
  have h0 : w.cell? ⟨sb, 0, none⟩ = some (.int .i64 T) := (blk_cell hs 0).trans rfl
  unfold markErr markOf
  rcases Nat.lt_or_ge n T with hlt | hge
  · have hTn : ¬ T ≤ n := by omega
    rw [if_neg hTn, if_neg hTn]
    have hbig := hok.big
    by_cases hm : n ∈ L
    · rw [if_pos hm, if_pos hm]
      have hha := has_any h' n hn
      rw [decide_eq_true hm] at hha
      go_enter Tryd.func16, Tryd.ntmps16
      go_wp2_with fail
      refine (look_in h0 (by omega) (by omega) (by omega)).mono ?_
      rintro e w' ⟨rfl, rfl⟩
      go_wp2_with fail
      refine hha.mono ?_
      rintro e w' ⟨rfl, rfl⟩
      go_wp2_with fail
      go_ret
      exact ⟨rfl, h', Keep.refl _ _⟩
    · rw [if_neg hm, if_neg hm]
      obtain ⟨x, hx, hx64, hb⟩ := hok.get hlt
      have h1 : w.cell? ⟨sb, 1, none⟩ = some (.int .i64 L.length) := (blk_cell hs 1).trans rfl
      have h2 : w.cell? ⟨sb, 2, none⟩ = some (.slice (some ⟨wb, 0, none⟩) ws.length ws.length) := (blk_cell hs 2).trans rfl
      have hc := word_cell hw hx
      have e : ((n : Int) / 64).toNat = n / 64 := by omega
      have e2 : ((n : Int) % 64).toNat = n % 64 := by omega
      have hlen := hok.len
      have hlL := hok.length_le
      have hne : sb ≠ wb := blk_ne hs hw (by decide)
      have hz : (bits BinOp.and IntKind.u64 ((x : Int) / 2 ^ ((n : Int) % 64).toNat) 1 != 0) = false := by
        rw [e2, has_bit x _ hx64, hb, decide_eq_false hm]
      refine (mark_in (n := n) h0 h1 h2 (by rw [e]; exact hc) (by omega) (by omega) (by omega) (by omega) (blk_frozen hs 1) (blk_frozen hw _) hne hz).mono ?_
      rintro e1 w' ⟨rfl, rfl⟩
      have hp : 2 ^ (n % 64) < 2 ^ 64 := Nat.pow_lt_pow_right (by decide) (Nat.mod_lt _ (by decide))
      have hu : wrap64 ((L.length : Int) + 1) = ((L.length + 1 : Nat) : Int) := by unfold wrap64; omega
      rw [e, e2, shl_u64 _ (Nat.mod_lt _ (by decide)), or_u64 x _ hx64 hp, hu]
      obtain ⟨g1, g2, g3⟩ := set_two (i := n / 64) (y := x ||| 2 ^ (n % 64)) (u' := L.length + 1) hs hw
      refine ⟨rfl, ⟨_, hok.mark hlt hx hm, ?_, g2⟩, g3⟩
      rw [length_ins]
      exact g1
  · rw [if_pos hge, if_pos hge]
    go_enter Tryd.func16, Tryd.ntmps16
    go_wp2_with fail
    refine (look_out h0 (by omega) (by omega) (by omega)).mono ?_
    rintro e w' ⟨rfl, rfl⟩
    go_wp2_with fail
    go_ret
    exact ⟨rfl, h', Keep.refl _ _⟩
theorem clear_any {w : World} {sb wb T : Nat} {L : List Nat} (h : SetAt w sb wb T L) (n : Nat) (hn : n < 4294967296) :
    Calls Tryd.prog 17 #[.pointer (some ⟨sb, 0, none⟩), .int .u32 n] w fun e w' => e = .returned (.int .i64 (clearErr T L n)) ∧ SetAt w' sb wb T (clearOf T L n) ∧ Keep (Two sb wb) w w' := by
  have h' := h
  obtain ⟨ws, hok, hs, hw⟩ := h
  have h0 : w.cell? ⟨sb, 0, none⟩ = some (.int .i64 T) := (blk_cell hs 0).trans rfl
  unfold clearErr clearOf
  rcases Nat.lt_or_ge n T with hlt | hge
  · have hTn : ¬ T ≤ n := by omega
    rw [if_neg hTn, if_neg hTn]
    have hbig := hok.big
    by_cases hm : n ∈ L
    · rw [if_pos hm]
      obtain ⟨x, hx, hx64, hb⟩ := hok.get hlt
      have h1 : w.cell? ⟨sb, 1, none⟩ = some (.int .i64 L.length) := (blk_cell hs 1).trans rfl
      have h2 : w.cell? ⟨sb, 2, none⟩ = some (.slice (some ⟨wb, 0, none⟩) ws.length ws.length) := (blk_cell hs 2).trans rfl
      have hc := word_cell hw hx
      have e : ((n : Int) / 64).toNat = n / 64 := by omega
      have e2 : ((n : Int) % 64).toNat = n % 64 := by omega
      have hlen := hok.len
      have hlL := hok.length_le
      have hne : sb ≠ wb := blk_ne hs hw (by decide)
      have hz : (bits BinOp.and IntKind.u64 ((x : Int) / 2 ^ ((n : Int) % 64).toNat) 1 != 0) = true := by
        rw [e2, has_bit x _ hx64, hb, decide_eq_true hm]
      refine (clear_in (n := n) h0 h1 h2 (by rw [e]; exact hc) (by omega) (by omega) (by omega) (by omega) (blk_frozen hs 1) (blk_frozen hw _) hne hz).mono ?_
      rintro e1 w' ⟨rfl, rfl⟩
      have hlo := length_out n L hok.up hm
      have hu : wrap64 ((L.length : Int) - 1) = (((L.filter (· ≠ n)).length : Nat) : Int) := by unfold wrap64; omega
      obtain ⟨z, hz1, hz2, hz3⟩ := andNot_u64 x (2 ^ (n % 64))
      rw [e, e2, shl_u64 _ (Nat.mod_lt _ (by decide)), hz1, hu]
      obtain ⟨g1, g2, g3⟩ := set_two (i := n / 64) (y := z) (u' := (L.filter (· ≠ n)).length) hs hw
      exact ⟨rfl, ⟨_, hok.clear hlt hx hz2 hz3, g1, g2⟩, g3⟩
    · rw [if_neg hm]
      have hf : L.filter (· ≠ n) = L := List.filter_eq_self.2 (fun a ha => decide_eq_true (fun e => hm (e ▸ ha)))
      rw [hf]
      have hha := has_any h' n hn
      rw [decide_eq_false hm] at hha
      go_enter Tryd.func17, Tryd.ntmps17
      go_wp2_with fail
      refine (look_in h0 (by omega) (by omega) (by omega)).mono ?_
      rintro e w' ⟨rfl, rfl⟩
      go_wp2_with fail
      refine hha.mono ?_
      rintro e w' ⟨rfl, rfl⟩
      go_wp2_with fail
      go_ret
      exact ⟨rfl, h', Keep.refl _ _⟩
  · rw [if_pos hge, if_pos hge]
    go_enter Tryd.func17, Tryd.ntmps17
    go_wp2_with fail
    refine (look_out h0 (by omega) (by omega) (by omega)).mono ?_
    rintro e w' ⟨rfl, rfl⟩
    go_wp2_with fail
    go_ret
    exact ⟨rfl, h', Keep.refl _ _⟩
theorem mark_nil {n : Int} {w : World} :
    Calls Tryd.prog 16 #[.pointer none, .int .u32 n] w fun e w' => e = .returned (.int .i64 1) ∧ w = w' := by
  go_enter Tryd.func16, Tryd.ntmps16
  go_wp2_with fail
  refine look_nil.mono ?_
  rintro e w' ⟨rfl, rfl⟩
  go_wp2_with fail
  go_ret
  exact ⟨rfl, rfl⟩
theorem clear_nil {n : Int} {w : World} :
    Calls Tryd.prog 17 #[.pointer none, .int .u32 n] w fun e w' => e = .returned (.int .i64 1) ∧ w = w' := by
  go_enter Tryd.func17, Tryd.ntmps17
  go_wp2_with fail
  refine look_nil.mono ?_
  rintro e w' ⟨rfl, rfl⟩
  go_wp2_with fail
  go_ret
  exact ⟨rfl, rfl⟩

/-! ### The math/bits table -/
def Tab (w : World) : Prop := ∀ k : Nat, k < 64 → w.cell? ⟨0, k, none⟩ = some (.int .u8 ((Lib.deBruijn64tab.getD k 0 : Nat) : Int))
theorem Tab.kept {w w' : World} {S : Nat → Prop} (h : Tab w) (hk : Kept w w' S) (h0 : ¬ S 0) : Tab w' := fun k hlt => cell_kept (h k hlt) hk h0
theorem ctz_any {w : World} (h : Tab w) (x : Nat) (h0 : x ≠ 0) (hx : x < 2 ^ 64) :
    Calls Tryd.prog 27 #[.int .u64 x] w fun e w' => e = .returned (.int .i64 (Lib.ctz 64 x : Nat)) ∧ w = w' := by
  have hk := (ctz_bit x h0 hx).1
  obtain ⟨hq, ht⟩ := Lib.deBruijn64_at _ hk
  have hc := h _ hq
  rw [ht] at hc
  exact ctz_in (k := (Lib.ctz 64 x : Nat)) (beq_eq_false_iff_ne.2 (by omega)) (ctz_q x h0 hx) (by omega) (by omega) (by rw [Int.toNat_natCast]; exact hc) (by omega) (by omega)

/-! ### How many -/
theorem used_any {w : World} {sb wb T : Nat} {L : List Nat} (h : SetAt w sb wb T L) : Calls Tryd.prog 19 #[.pointer (some ⟨sb, 0, none⟩)] w fun e w' => e = .returned (.int .i64 L.length) ∧ w = w' := by
  obtain ⟨ws, hok, hs, hw⟩ := h
  have h1 : w.cell? ⟨sb, 1, none⟩ = some (.int .i64 L.length) := (blk_cell hs 1).trans rfl
  clear hs hw
  go_enter Tryd.func19, Tryd.ntmps19
  go_wp2_with fail
  go_ret
  exact ⟨rfl, rfl⟩
theorem total_any {w : World} {sb wb T : Nat} {L : List Nat} (h : SetAt w sb wb T L) : Calls Tryd.prog 21 #[.pointer (some ⟨sb, 0, none⟩)] w fun e w' => e = .returned (.int .i64 T) ∧ w = w' := by
  obtain ⟨ws, hok, hs, hw⟩ := h
  have h1 : w.cell? ⟨sb, 0, none⟩ = some (.int .i64 T) := (blk_cell hs 0).trans rfl
  clear hs hw
  go_enter Tryd.func21, Tryd.ntmps21
  go_wp2_with fail
  go_ret
  exact ⟨rfl, rfl⟩
theorem free_any {w : World} {sb wb T : Nat} {L : List Nat} (h : SetAt w sb wb T L) : Calls Tryd.prog 20 #[.pointer (some ⟨sb, 0, none⟩)] w fun e w' => e = .returned (.int .i64 ((T : Int) - L.length)) ∧ Keep No w w' := by
  obtain ⟨ws, hok, hs, hw⟩ := h
  have h0 : w.cell? ⟨sb, 0, none⟩ = some (.int .i64 T) := (blk_cell hs 0).trans rfl
  have h1 : w.cell? ⟨sb, 1, none⟩ = some (.int .i64 L.length) := (blk_cell hs 1).trans rfl
  have hl := hok.length_le
  have hb := hok.big
  have hw64 : wrap64 ((T : Int) - L.length) = (T : Int) - L.length := by unfold wrap64; omega
  clear hs hw hok
  go_enter Tryd.func20, Tryd.ntmps20
  go_wp2_with fail
  go_quiet (fail)
  go_wp2_with fail
  go_ret
  exact ⟨rfl, Keep.drewN (Keep.refl _ _) _⟩
theorem used_nil {w : World} : Calls Tryd.prog 19 #[.pointer none] w fun e w' => e = .returned (.int .i64 0) ∧ w = w' := by
  go_enter Tryd.func19, Tryd.ntmps19
  go_wp2_with fail
  go_ret
  exact ⟨rfl, rfl⟩
theorem free_nil {w : World} : Calls Tryd.prog 20 #[.pointer none] w fun e w' => e = .returned (.int .i64 0) ∧ w = w' := by
  go_enter Tryd.func20, Tryd.ntmps20
  go_wp2_with fail
  go_ret
  exact ⟨rfl, rfl⟩
theorem total_nil {w : World} : Calls Tryd.prog 21 #[.pointer none] w fun e w' => e = .returned (.int .i64 0) ∧ w = w' := by
  go_enter Tryd.func21, Tryd.ntmps21
  go_wp2_with fail
  go_ret
  exact ⟨rfl, rfl⟩
end Go.Proofs.YtkpdmbcefjjfgaaDoor.Sa
