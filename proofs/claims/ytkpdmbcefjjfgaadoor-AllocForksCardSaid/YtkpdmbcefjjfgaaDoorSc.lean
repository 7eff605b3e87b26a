import Derived.Test.YtkpdmbcefjjfgaaDoorSb
namespace Go.Proofs.YtkpdmbcefjjfgaaDoor.Sc
open Go.RowKit Go.Proofs.YtkpdmbcefjjfgaaDoorW.PrintWords Go.Proofs.YtkpdmbcefjjfgaaDoorW.PrintLast Go.Proofs.YtkpdmbcefjjfgaaDoorW.PrintMore Wd Sa

/-- The lowest from b on that is not in a rising list. -/
def low : Nat → List Nat → Nat
  | b, [] => b
  | b, m :: r => if m = b then low (b + 1) r else b
theorem low_eq (n : Nat) : ∀ (L : List Nat) (b : Nat), L.Pairwise (· < ·) → (∀ m, m ∈ L → b ≤ m) → b ≤ n → n ∉ L → (∀ m, b ≤ m → m < n → m ∈ L) → low b L = n
  | [], b, _, _, hb, _, hall => by
    unfold low
    rcases Nat.lt_or_ge b n with h | h
    · cases hall b (Nat.le_refl _) h
    · omega
  | a :: r, b, hup, hge, hb, hn, hall => by
    have hc := List.pairwise_cons.1 hup
    unfold low
    have hab := hge a (by simp)
    have han : a ≠ n := fun e => hn (by simp [e])
    by_cases h : a = b
    · rw [if_pos h]
      subst h
      refine low_eq n r (a + 1) hc.2 (fun m hm => hc.1 m hm) (by omega) (fun hm => hn (by simp [hm])) (fun m h1 h2 => ?_)
      rcases List.mem_cons.1 (hall m (by omega) h2) with e | e
      · omega
      · exact e
    · rw [if_neg h]
      rcases Nat.lt_or_ge b n with h2 | h2
      · rcases List.mem_cons.1 (hall b (Nat.le_refl _) h2) with e | e
        · exact absurd e.symm h
        · have := hc.1 b e; omega
      · omega
theorem low_le : ∀ (L : List Nat) (b : Nat), low b L ≤ b + L.length
  | [], b => by simp [low]
  | a :: r, b => by
    unfold low
    split
    · have := low_le r (b + 1); simp only [List.length_cons]; omega
    · omega
theorem low_not : ∀ (L : List Nat) (b : Nat), L.Pairwise (· < ·) → (∀ m, m ∈ L → b ≤ m) → low b L ∉ L ∧ b ≤ low b L
  | [], b, _, _ => by simp [low]
  | a :: r, b, hup, hge => by
    have hc := List.pairwise_cons.1 hup
    have hab := hge a (by simp)
    unfold low
    split
    · rename_i h
      have ih := low_not r (b + 1) hc.2 (fun m hm => by have := hc.1 m hm; omega)
      refine ⟨fun hm => ?_, by omega⟩
      rcases List.mem_cons.1 hm with e | e
      · omega
      · exact ih.1 e
    · rename_i h
      refine ⟨fun hm => ?_, Nat.le_refl _⟩
      rcases List.mem_cons.1 hm with e | e
      · exact h e.symm
      · have := hc.1 _ e; omega
theorem low_below : ∀ (L : List Nat) (b : Nat), ∀ m, b ≤ m → m < low b L → m ∈ L
  | [], b, m, h1, h2 => by simp only [low] at h2; omega
  | a :: r, b, m, h1, h2 => by
    unfold low at h2
    split at h2
    · rename_i h
      by_cases e : m = b
      · simp [e, h]
      · exact List.mem_cons_of_mem _ (low_below r (b + 1) m (by omega) h2)
    · omega
def takeErr (T : Nat) (L : List Nat) : Int := if L.length = T then 21 else 0
def takeNum (T : Nat) (L : List Nat) : Nat := if L.length = T then 0 else low 0 L
def takeOf (T : Nat) (L : List Nat) : List Nat := if L.length = T then L else ins (low 0 L) L

/-- What the first word that is not full tells. -/
theorem first_word {T : Nat} {L ws : List Nat} (h : Ok T L ws) {i x : Nat} (hx : ws[i]? = some x) (hall : ∀ m, m < 64 * i → m ∈ L) (hne : x ≠ 18446744073709551615) :
    18446744073709551615 - x ≠ 0 ∧ 18446744073709551615 - x < 2 ^ 64 ∧ 64 * i + Lib.ctz 64 (18446744073709551615 - x) = low 0 L ∧ Lib.ctz 64 (18446744073709551615 - x) < 64 := by
  have hx64 := h.w64 _ _ hx
  have h0 : 18446744073709551615 - x ≠ 0 := by omega
  have h1 : 18446744073709551615 - x < 2 ^ 64 := by omega
  have hb : ∀ j, j < 64 → (18446744073709551615 - x).testBit j = !decide (64 * i + j ∈ L) := by
    intro j hj
    have e : 18446744073709551615 - x = 2 ^ 64 - (x + 1) := by omega
    rw [e, Nat.testBit_two_pow_sub_succ hx64, h.bit _ _ hx j hj]
    simp [hj]
  obtain ⟨c1, c2, c3⟩ := ctz_bit _ h0 h1
  refine ⟨h0, h1, ?_, c1⟩
  rw [hb _ c1] at c2
  refine (low_eq _ L 0 h.up (fun _ _ => Nat.zero_le _) (Nat.zero_le _) ?_ ?_).symm
  · intro hm
    rw [decide_eq_true hm] at c2
    cases c2
  · intro m _ hm
    rcases Nat.lt_or_ge m (64 * i) with hlt | hge
    · exact hall m hlt
    · have := c3 (m - 64 * i) (by omega)
      rw [hb _ (by omega)] at this
      have e : 64 * i + (m - 64 * i) = m := by omega
      rw [e] at this
      simpa using this
theorem full_word {T : Nat} {L ws : List Nat} (h : Ok T L ws) {i x : Nat} (hx : ws[i]? = some x) (hall : ∀ m, m < 64 * i → m ∈ L) (he : x = 18446744073709551615) : ∀ m, m < 64 * (i + 1) → m ∈ L := by
  intro m hm
  rcases Nat.lt_or_ge m (64 * i) with hlt | hge
  · exact hall m hlt
  · have := h.bit _ _ hx (m - 64 * i) (by omega)
    rw [he] at this
    have e : 64 * i + (m - 64 * i) = m := by omega
    have e2 : (18446744073709551615 : Nat) = 2 ^ 64 - 1 := by decide
    rw [e, e2, Nat.testBit_two_pow_sub_one] at this
    have e3 : decide (m - 64 * i < 64) = true := decide_eq_true (by omega)
    rw [e3] at this
    simpa using this.symm
theorem xor_u64 (x : Nat) (hx : x < 2 ^ 64) : bits BinOp.xor IntKind.u64 IntKind.u64.max (x : Int) = ((18446744073709551615 - x : Nat) : Int) := by
  have e : IntKind.u64.max = ((2 ^ 64 - 1 : Nat) : Int) := by decide
  simp only [bits, e, BitVec.ofInt_natCast]
  have e2 : BitVec.ofNat IntKind.u64.bits (2 ^ 64 - 1) = BitVec.allOnes 64 := rfl
  have e3 : (BitVec.ofNat IntKind.u64.bits (2 ^ 64 - 1) ^^^ BitVec.ofNat IntKind.u64.bits x).toNat = 18446744073709551615 - x := by
    rw [e2]
    show (BitVec.allOnes 64 ^^^ BitVec.ofNat 64 x).toNat = _
    rw [BitVec.allOnes_xor, BitVec.toNat_not, BitVec.toNat_ofNat, Nat.mod_eq_of_lt hx]
  rw [e3]
  exact wraps_u64 _ (Int.natCast_nonneg _) (by omega)
theorem take_any {w : World} {sb wb T : Nat} {L : List Nat} (h : SetAt w sb wb T L) (ht : Tab w) :
    Calls Tryd.prog 15 #[.pointer (some ⟨sb, 0, none⟩)] w fun e w' => e = .returned (.tuple #[.int .u32 (takeNum T L : Nat), .int .i64 (takeErr T L)]) ∧ SetAt w' sb wb T (takeOf T L) ∧ Keep (Two sb wb) w w' := by
  have h' := h
  obtain ⟨ws, hok, hs, hw⟩ := h
  have h0 : w.cell? ⟨sb, 0, none⟩ = some (.int .i64 T) := (blk_cell hs 0).trans rfl
  have h1 : w.cell? ⟨sb, 1, none⟩ = some (.int .i64 L.length) := (blk_cell hs 1).trans rfl
  have h2 : w.cell? ⟨sb, 2, none⟩ = some (.slice (some ⟨wb, 0, none⟩) ws.length ws.length) := (blk_cell hs 2).trans rfl
  have hlen := hok.len
  have hbig := hok.big
  have HW := Lib.hid (show ∀ i x : Nat, ws[i]? = some x → w.cell? ⟨wb, i, none⟩ = some (.int .u64 (x : Int)) from fun i x hx => word_cell hw hx)
  have HS := Lib.hid h'
  have HT := Lib.hid ht
  have HO := Lib.hid hok
  clear hs hw ht h' hok
  unfold takeErr takeNum takeOf
  by_cases hL : L.length = T
  · have hb : ((L.length : Int) == (T : Int)) = true := by rw [hL]; simp
    simp only [if_pos hL]
    clear hL
    go_enter Tryd.func15, Tryd.ntmps15
    go_wp2_with fail
    go_quiet (fail)
    go_wp2_with fail
    go_ret2
    exact ⟨rfl, HS.out, Keep.drewN (Keep.refl _ _) _⟩
  · have hb : ((L.length : Int) == (T : Int)) = false := beq_eq_false_iff_ne.2 (by omega)
    simp only [if_neg hL]
    have HL := Lib.hid hL
    clear hL
    go_enter Tryd.func15, Tryd.ntmps15
    go_wp2_with fail
    go_quiet (fail)
    go_wp2_with fail
    go_loopw [25] (fun v wr => ∃ i nd : Nat, v = .int .i64 i ∧ i ≤ ws.length ∧ wr = w.drewN nd ∧ Go.RowKit.Hid (∀ m, m < 64 * i → m ∈ L)) (fun v _ => ws.length - (intOf v).toNat)
    case atStart => exact ⟨0, _, rfl, Nat.zero_le _, rfl, Lib.hid (fun m hm => by omega)⟩
    case round =>
      obtain ⟨i, nd, rfl, hi, rfl, hall⟩ := hrel
      by_cases hlt : i < ws.length
      · obtain ⟨x, hx⟩ : ∃ x, ws[i]? = some x := ⟨ws[i], List.getElem?_eq_getElem hlt⟩
        have hc := HW.out i x hx
        have HX := Lib.hid hx
        have hx64 := HO.out.w64 _ _ hx
        clear hx
        by_cases hfull : x = 18446744073709551615
        · have hne : ((x : Int) != 18446744073709551615) = false := by rw [hfull]; rfl
          have HF := Lib.hid hfull
          clear hfull
          go_wp2_with fail
          exact ⟨⟨i + 1, _, rfl, by omega, rfl, Lib.hid (full_word HO.out HX.out hall.out HF.out)⟩, by simp only [intOf]; omega⟩
        · have hne : ((x : Int) != 18446744073709551615) = true := by simp; omega
          have HF := Lib.hid (first_word HO.out HX.out hall.out hfull)
          clear hfull
          have hxor : bits BinOp.xor IntKind.u64 IntKind.u64.max (x : Int) = ((18446744073709551615 - x : Nat) : Int) := xor_u64 x hx64
          obtain ⟨z, hz⟩ : ∃ z, Lib.ctz 64 (18446744073709551615 - x) = z := ⟨_, rfl⟩
          have hz64 : z < 64 := by have := HF.out.2.2.2; omega
          have hctz := ctz_any (w := w.drewN nd) (HT.out.kept (Kept.drewN (Kept.refl w No) nd) id) _ HF.out.1 HF.out.2.1
          rw [hz] at hctz
          have hlow : 64 * i + z = low 0 L := by rw [← hz]; exact HF.out.2.2.1
          have hltT : low 0 L < T := by
            have h1 := low_le L 0
            have h2 := HO.out.length_le
            have h3 := HL.out
            omega
          have HZ := Lib.hid hlow
          have HZ2 := Lib.hid hltT
          clear hz hlow hltT
          go_wp2_with fail
          refine hctz.mono ?_
          rintro e w' ⟨rfl, rfl⟩
          clear hctz
          go_wp2_with fail
          have hnum : ((i : Int) * 64 + z) = ((low 0 L : Nat) : Int) := by
            have h1 := HZ.out
            omega
          rw [hnum]
          have h3 := HZ2.out
          have hmark := mark_any (HS.out.kept (Kept.drewN (Kept.refl w No) nd) id id) (low 0 L) (by omega)
          have h4 := (low_not L 0 HO.out.up (fun _ _ => Nat.zero_le _)).1
          have h5 : ¬ T ≤ low 0 L := by omega
          unfold markErr markOf at hmark
          rw [if_neg h5, if_neg h5, if_neg h4, if_neg h4] at hmark
          clear h3 h4 h5 hnum
          refine hmark.mono ?_
          rintro e w' ⟨rfl, hset, hk⟩
          have HSET := Lib.hid hset
          have HK := Lib.hid hk
          clear hset hk hmark
          go_wp2_with fail
          go_ret2
          exact ⟨rfl, HSET.out, (Keep.drewN (Keep.refl (Two sb wb) w) nd).then_ HK.out (fun _ h => .inl h)⟩
      · exfalso
        have h1 := low_le L 0
        have h2 := HO.out.length_le
        have h3 := HL.out
        have h4 := (low_not L 0 HO.out.up (fun _ _ => Nat.zero_le _)).1
        exact h4 (hall.out _ (by omega))
end Go.Proofs.YtkpdmbcefjjfgaaDoor.Sc
