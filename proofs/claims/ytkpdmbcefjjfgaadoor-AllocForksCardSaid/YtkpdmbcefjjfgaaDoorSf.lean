/- What the statements share: awake. And the laws on no set, and on all of a set. -/
import Derived.Test.YtkpdmbcefjjfgaaDoorSd
import Derived.Test.YtkpdmbcefjjfgaaDoorSe
namespace Go.Proofs.YtkpdmbcefjjfgaaDoor.Sf
open Go.RowKit Go.Proofs.YtkpdmbcefjjfgaaDoorW.PrintWords Go.Proofs.YtkpdmbcefjjfgaaDoorW.PrintLast Go.Proofs.YtkpdmbcefjjfgaaDoorW.PrintMore Wd Sa Sb Sc Sd Se

theorem Tab.pos {w : World} (h : Tab w) : 0 < w.heap.size := by
  have := h 0 (by decide)
  rcases Nat.eq_zero_or_pos w.heap.size with h0 | h0
  · simp [World.cell?, Array.getElem?_eq_none (Nat.le_of_eq h0)] at this
  · exact h0
theorem Tab.below {B : Nat} {w w' : World} (h : Tab w) (hb : Below B w w') (h0 : 0 < B) : Tab w' := fun k hk => (hb.cell (p := ⟨0, k, none⟩) h0).trans (h k hk)
theorem Tab.keep {w w' : World} {S : Nat → Prop} (h : Tab w) (hk : Keep S w w') (h0 : ¬ S 0) : Tab w' := h.kept hk.kept h0
theorem SetAt.keep {w w' : World} {S : Nat → Prop} {sb wb T : Nat} {L : List Nat} (h : SetAt w sb wb T L) (hk : Keep S w w') (h1 : ¬ S sb) (h2 : ¬ S wb) : SetAt w' sb wb T L := h.kept hk.kept h1 h2
theorem SetAt.lt {w : World} {sb wb T : Nat} {L : List Nat} (h : SetAt w sb wb T L) : sb < w.heap.size ∧ wb < w.heap.size := by
  obtain ⟨ws, _, hs, hw⟩ := h
  exact ⟨blk_lt hs, blk_lt hw⟩
theorem SetAt.below {B : Nat} {w w' : World} {sb wb T : Nat} {L : List Nat} (h : SetAt w sb wb T L) (hb : Below B w w') (h1 : sb < B) (h2 : wb < B) : SetAt w' sb wb T L := by
  obtain ⟨ws, ho, hs, hw⟩ := h
  exact ⟨ws, ho, (hb.block _ h1).trans hs, (hb.block _ h2).trans hw⟩
theorem SetAt.ok {w : World} {sb wb T : Nat} {L : List Nat} (h : SetAt w sb wb T L) : ∃ ws, Ok T L ws := by
  obtain ⟨ws, ho, _, _⟩ := h
  exact ⟨ws, ho⟩
theorem two_ge {sb wb B : Nat} (h1 : B ≤ sb) (h2 : B ≤ wb) : ∀ k, Two sb wb k → B ≤ k := fun k hk => by rcases hk with rfl | rfl <;> assumption
theorem two_no {sb wb k : Nat} (h1 : k < sb) (h2 : k < wb) : ¬ Two sb wb k := fun hk => by rcases hk with rfl | rfl <;> omega

set_option maxHeartbeats 1000000 in
theorem awake_any {w : World} (ht : Tab w) : Calls Tryd.prog 9 #[] w fun e w' => e = .returned (.bool true) ∧ Below w.heap.size w w' := by
  have h0 := Tab.pos ht
  have HT := Lib.hid ht
  clear ht
  go_enter Tryd.func9, Tryd.ntmps9
  go_wp2_with fail
  refine (new_any 3 w).mono ?_
  rintro e w1 ⟨sb, wb, rfl, hs, hb, h1, h2⟩
  have HS := Lib.hid (show SetAt w1 sb wb 3 [] from hs)
  have HB := Lib.hid hb
  have HT1 := Lib.hid (Tab.below HT.out hb h0)
  clear hs hb HT
  go_wp2_with fail
  refine (show Calls Tryd.prog 15 #[.pointer (some ⟨sb, 0, none⟩)] w1 fun e w' => e = .returned (.tuple #[.int .u32 0, .int .i64 0]) ∧ SetAt w' sb wb 3 [0] ∧ Keep (Two sb wb) w1 w' from take_any HS.out HT1.out).mono ?_
  rintro e w2 ⟨rfl, hs, hk⟩
  have HS2 := Lib.hid hs
  have HB2 := Lib.hid (hk.below HB.out HB.out.size (two_ge h1 h2))
  have HT2 := Lib.hid (Tab.keep HT1.out hk (two_no (by omega) (by omega)))
  clear hs hk HS HB HT1
  go_wp2_with fail
  refine (show Calls Tryd.prog 15 #[.pointer (some ⟨sb, 0, none⟩)] w2 fun e w' => e = .returned (.tuple #[.int .u32 1, .int .i64 0]) ∧ SetAt w' sb wb 3 [0, 1] ∧ Keep (Two sb wb) w2 w' from take_any HS2.out HT2.out).mono ?_
  rintro e w3 ⟨rfl, hs, hk⟩
  have HS3 := Lib.hid hs
  have HB3 := Lib.hid (hk.below HB2.out HB2.out.size (two_ge h1 h2))
  clear hs hk HS2 HB2 HT2
  go_wp2_with fail
  refine (show Calls Tryd.prog 16 #[.pointer (some ⟨sb, 0, none⟩), .int .u32 1] w3 fun e w' => e = .returned (.int .i64 23) ∧ SetAt w' sb wb 3 [0, 1] ∧ Keep (Two sb wb) w3 w' from mark_any HS3.out 1 (by decide)).mono ?_
  rintro e w4 ⟨rfl, hs, hk⟩
  have HS4 := Lib.hid hs
  have HB4 := Lib.hid (hk.below HB3.out HB3.out.size (two_ge h1 h2))
  clear hs hk HS3 HB3
  go_wp2_with fail
  refine (show Calls Tryd.prog 16 #[.pointer (some ⟨sb, 0, none⟩), .int .u32 3] w4 fun e w' => e = .returned (.int .i64 43) ∧ SetAt w' sb wb 3 [0, 1] ∧ Keep (Two sb wb) w4 w' from mark_any HS4.out 3 (by decide)).mono ?_
  rintro e w5 ⟨rfl, hs, hk⟩
  have HS5 := Lib.hid hs
  have HB5 := Lib.hid (hk.below HB4.out HB4.out.size (two_ge h1 h2))
  clear hs hk HS4 HB4
  go_wp2_with fail
  refine (show Calls Tryd.prog 19 #[.pointer (some ⟨sb, 0, none⟩)] w5 fun e w' => e = .returned (.int .i64 2) ∧ w5 = w' from used_any HS5.out).mono ?_
  rintro e w6 ⟨rfl, rfl⟩
  go_wp2_with fail
  go_ret
  exact ⟨rfl, HB5.out⟩
theorem take_nil {w : World} : Calls Tryd.prog 15 #[.pointer none] w fun e w' => e = .returned (.tuple #[.int .u32 0, .int .i64 1]) ∧ w = w' := by
  go_enter Tryd.func15, Tryd.ntmps15
  go_wp2_with fail
  go_ret2
  exact ⟨rfl, rfl⟩
theorem list_nil {w : World} : Calls Tryd.prog 22 #[.pointer none] w fun e w' => e = .returned (.slice none 0 0) ∧ w = w' := by
  go_enter Tryd.func22, Tryd.ntmps22
  go_wp2_with fail
  go_ret
  exact ⟨rfl, rfl⟩
set_option maxHeartbeats 1000000 in
theorem nobody (n : Int) {w : World} (ht : Tab w) : Calls Tryd.prog 4 #[.int .u32 n] w fun e w' => e = .returned (.bool true) ∧ Below w.heap.size w w' := by
  have HT := Lib.hid ht
  clear ht
  go_enter Tryd.func4, Tryd.ntmps4
  go_wp2_with fail
  refine take_nil.mono ?_
  rintro e w' ⟨rfl, rfl⟩
  go_wp2_with fail
  refine mark_nil.mono ?_
  rintro e w' ⟨rfl, rfl⟩
  go_wp2_with fail
  refine clear_nil.mono ?_
  rintro e w' ⟨rfl, rfl⟩
  go_wp2_with fail
  refine has_nil.mono ?_
  rintro e w' ⟨rfl, rfl⟩
  go_wp2_with fail
  refine used_nil.mono ?_
  rintro e w' ⟨rfl, rfl⟩
  go_wp2_with fail
  refine free_nil.mono ?_
  rintro e w' ⟨rfl, rfl⟩
  go_wp2_with fail
  refine total_nil.mono ?_
  rintro e w' ⟨rfl, rfl⟩
  go_wp2_with fail
  refine list_nil.mono ?_
  rintro e w' ⟨rfl, rfl⟩
  go_wp2_with fail
  refine fork_nil.mono ?_
  rintro e w' ⟨rfl, rfl⟩
  go_wp2_with fail
  refine (awake_any HT.out).mono ?_
  rintro e w' ⟨rfl, hb⟩
  have HB := Lib.hid hb
  clear hb
  go_wp2_with fail
  go_ret
  exact ⟨rfl, HB.out⟩
end Go.Proofs.YtkpdmbcefjjfgaaDoor.Sf
