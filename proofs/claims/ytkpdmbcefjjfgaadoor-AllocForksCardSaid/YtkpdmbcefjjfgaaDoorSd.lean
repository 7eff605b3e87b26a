import Derived.Test.YtkpdmbcefjjfgaaDoorSc
namespace Go.Proofs.YtkpdmbcefjjfgaaDoor.Sd
open Go.RowKit Go.Proofs.YtkpdmbcefjjfgaaDoorW.PrintWords Go.Proofs.YtkpdmbcefjjfgaaDoorW.PrintLast Go.Proofs.YtkpdmbcefjjfgaaDoorW.PrintMore Wd Sa Sc

/-- What the list still has, from the bits of word i. -/
structure Rest (i : Nat) (M : List Nat) (x : Nat) : Prop where
  up : M.Pairwise (· < ·)
  ge : ∀ m, m ∈ M → 64 * i ≤ m
  bit : ∀ j, j < 64 → x.testBit j = decide (64 * i + j ∈ M)
theorem Rest.next {i : Nat} {M : List Nat} {x : Nat} (h : Rest i M x) (h0 : x ≠ 0) (hx : x < 2 ^ 64) : ∃ t, M = (64 * i + Lib.ctz 64 x) :: t ∧ Rest i t (x &&& (x - 1)) := by
  obtain ⟨c1, c2, c3⟩ := ctz_bit x h0 hx
  have hd := drop_low x h0 hx
  generalize Lib.ctz 64 x = c at c1 c2 c3 hd
  rw [h.bit c c1] at c2
  have hc := of_decide_eq_true c2
  cases M with
  | nil => cases hc
  | cons m t =>
    have hp := List.pairwise_cons.1 h.up
    have hm := h.ge m (by simp)
    have hle : m ≤ 64 * i + c := by
      rcases List.mem_cons.1 hc with e | e
      · omega
      · exact Nat.le_of_lt (hp.1 _ e)
    have he : m = 64 * i + c := by
      rcases Nat.lt_or_ge (m - 64 * i) c with hlt | hge
      · have := c3 _ hlt
        rw [h.bit _ (by omega)] at this
        have e : 64 * i + (m - 64 * i) = m := by omega
        rw [e] at this
        simp at this
      · omega
    refine ⟨t, by rw [he], hp.2, fun a ha => h.ge a (by simp [ha]), ?_⟩
    intro j hj
    rw [hd j, h.bit j hj, ← Bool.decide_and]
    refine decide_eq_decide.2 ⟨fun ⟨h1, h2⟩ => ?_, fun h1 => ⟨by simp [h1], ?_⟩⟩
    · rcases List.mem_cons.1 h1 with e | e
      · omega
      · exact e
    · have := hp.1 _ h1
      omega
theorem Rest.none {i : Nat} {M : List Nat} (h : Rest i M 0) : ∀ m, m ∈ M → 64 * (i + 1) ≤ m := by
  intro m hm
  have h1 := h.ge m hm
  rcases Nat.lt_or_ge m (64 * (i + 1)) with hlt | hge
  · have := h.bit (m - 64 * i) (by omega)
    have e : 64 * i + (m - 64 * i) = m := by omega
    rw [e] at this
    simp [hm] at this
  · exact hge
theorem rest_of {T : Nat} {L ws : List Nat} (h : Ok T L ws) {i k x : Nat} (hx : ws[i]? = some x) (hge : ∀ m, m ∈ L.drop k → 64 * i ≤ m) (hlt : ∀ m, m ∈ L.take k → m < 64 * i) : Rest i (L.drop k) x where
  up := List.Pairwise.sublist (List.drop_sublist _ _) h.up
  ge := hge
  bit := fun j hj => by
    rw [h.bit _ _ hx j hj]
    refine decide_eq_decide.2 ⟨fun hm => ?_, fun hm => List.mem_of_mem_drop hm⟩
    rw [← List.take_append_drop k L] at hm
    rcases List.mem_append.1 hm with e | e
    · have := hlt _ e; omega
    · exact e
def ints (L : List Nat) : List Int := L.map fun n : Nat => (n : Int)

set_option maxHeartbeats 1000000 in
theorem list_any {w : World} {sb wb T : Nat} {L : List Nat} (h : SetAt w sb wb T L) (ht : Tab w) :
    Calls Tryd.prog 22 #[.pointer (some ⟨sb, 0, none⟩)] w fun e w' => ∃ v, e = .returned v ∧ Kd.R (Kd.int .u32) 33 w' w.heap.size (fun k => w.heap.size ≤ k) v (ints L) ∧ Below w.heap.size w w' := by
  obtain ⟨ws, hok, hs, hw⟩ := h
  have h2 : w.cell? ⟨sb, 2, none⟩ = some (.slice (some ⟨wb, 0, none⟩) ws.length ws.length) := (blk_cell hs 2).trans rfl

  have hws : ws.length ≤ 1024 := by have := hok.len; have := hok.big; omega
  have HW := Lib.hid (show ∀ i x : Nat, ws[i]? = some x → w.cell? ⟨wb, i, none⟩ = some (.int .u64 (x : Int)) from fun i x hx => word_cell hw hx)
  have hwb : wb < w.heap.size := blk_lt hw
  have HT := Lib.hid ht
  have HO := Lib.hid hok
  clear hs hw ht hok
  go_enter Tryd.func22, Tryd.ntmps22
  go_wp2_with fail
  go_loopw [3, 13] (fun v3 v13 wr => ∃ i k : Nat, v13 = .int .i64 i ∧ i ≤ ws.length ∧ k ≤ L.length ∧ Go.RowKit.Hid (∀ m, m ∈ L.drop k → 64 * i ≤ m) ∧ Go.RowKit.Hid (∀ m, m ∈ L.take k → m < 64 * i) ∧ Go.RowKit.Hid (Kd.R (Kd.int .u32) 33 wr w.heap.size (fun k => w.heap.size ≤ k) v3 (ints (L.take k))) ∧ Go.RowKit.Hid (Below w.heap.size w wr)) (fun _ v _ => ws.length - (intOf v).toNat)
  case atStart => exact ⟨0, 0, rfl, Nat.zero_le _, Nat.zero_le _, Lib.hid (fun m _ => by omega), Lib.hid (fun m hm => by simp at hm), Lib.hid (Kd.R_nil _ _ _ _ _), Lib.hid (Below.refl _ _)⟩
  case round =>
    obtain ⟨i, k, rfl, hi, hk, hge, hlt, hR, hB⟩ := hrel
    by_cases hil : i < ws.length
    · obtain ⟨x, hx⟩ : ∃ x, ws[i]? = some x := ⟨ws[i], List.getElem?_eq_getElem hil⟩
      have hc : wr.cell? ⟨wb, i, none⟩ = some (.int .u64 (x : Int)) := (hB.out.cell (p := ⟨wb, i, none⟩) hwb).trans (HW.out i x hx)
      have hx64 := HO.out.w64 _ _ hx
      have HREST := Lib.hid (rest_of HO.out hx hge.out hlt.out)
      clear hx
      go_wp2_with fail
      go_loopw [3, 5] (fun v3 v5 wq => ∃ k x : Nat, v5 = .int .u64 x ∧ x < 2 ^ 64 ∧ k ≤ L.length ∧ Go.RowKit.Hid (Rest i (L.drop k) x) ∧ Go.RowKit.Hid (∀ m, m ∈ L.take k → m < 64 * (i + 1)) ∧ Go.RowKit.Hid (Kd.R (Kd.int .u32) 33 wq w.heap.size (fun k => w.heap.size ≤ k) v3 (ints (L.take k))) ∧ Go.RowKit.Hid (Below w.heap.size w wq)) (fun _ v _ => (intOf v).toNat)
      case atStart => exact ⟨k, x, rfl, hx64, hk, HREST, Lib.hid (fun m hm => by have := hlt.out m hm; omega), hR, hB⟩
      case round =>
        clear hR hB hge hlt hk HREST hx64 hc
        obtain ⟨k, x, rfl, hx64, hk, hrest, hlt, hR, hB⟩ := hrel
        by_cases h0 : x = 0
        · have hz : ((x : Int) != 0) = false := by rw [h0]; rfl
          have H0 := Lib.hid h0
          clear h0
          go_wp2_with fail
          exact ⟨⟨i + 1, k, rfl, by omega, hk, Lib.hid (Rest.none (by rw [← H0.out]; exact hrest.out)), hlt, hR, hB⟩, by simp only [intOf]; omega⟩
        · have hz : ((x : Int) != 0) = true := by simp [h0]
          obtain ⟨M, hM, hR2⟩ := hrest.out.next h0 hx64
          have hc64 := (ctz_bit x h0 hx64).1
          have hctz := ctz_any (HT.out.kept (Kept.of_below hB.out No) id) x h0 hx64
          have hkl : k < L.length := by
            rcases Nat.lt_or_ge k L.length with h | h
            · exact h
            · rw [List.drop_eq_nil_of_le h] at hM; cases hM
          rw [List.drop_eq_getElem_cons hkl] at hM
          injection hM with hM1 hM2
          have htake : L.take (k + 1) = L.take k ++ [64 * i + Lib.ctz 64 x] := by rw [List.take_succ_eq_append_getElem hkl, hM1]
          obtain ⟨c, hcz⟩ : ∃ c, Lib.ctz 64 x = c := ⟨_, rfl⟩
          rw [hcz] at hctz htake hc64
          have hand : bits BinOp.and IntKind.u64 (x : Int) ((x : Int) - 1) = ((x &&& (x - 1) : Nat) : Int) := by
            have e : (x : Int) - 1 = ((x - 1 : Nat) : Int) := by omega
            rw [e]
            exact and_u64 _ _ hx64 (by omega)
          have hdec : x &&& (x - 1) < x := Nat.lt_of_le_of_lt Nat.and_le_right (by omega)
          have HREST := Lib.hid (show Rest i (L.drop (k + 1)) (x &&& (x - 1)) by rw [hM2]; exact hR2)
          have HTAKE := Lib.hid htake
          have HLT := Lib.hid (show ∀ m, m ∈ L.take (k + 1) → m < 64 * (i + 1) by
            intro m hm
            rw [htake] at hm
            rcases List.mem_append.1 hm with e | e
            · exact hlt.out m e
            · have := List.mem_singleton.1 e; omega)
          have hLl : L.length ≤ 65536 := Nat.le_trans HO.out.length_le HO.out.big
          have hlen2 : (ints (L.take k)).length = k := by simp [ints]; omega
          have HL2 := Lib.hid hlen2
          have H0 := Lib.hid h0
          clear h0 hM1 hM2 hcz htake hrest hR2 hlen2
          go_wp2_with fail
          refine hctz.mono ?_
          rintro e w' ⟨rfl, rfl⟩
          clear hctz
          go_wp2_with ((with_reducible refine gate_builtin (b := .append) (xs := #[.tmp 24, .tmp 31]) rfl ?_); at_builtin; refine Kd.R_append (Kd.int .u32) (w0 := w) w.heap.size rfl (.tmp 24) (.tmp 31) 27 33 (.int .u32 0) 4 rfl Tryd.underlying27 S0.info33 rfl (by decide) (by omega) _ (ints (L.take k)) ((i : Int) * 64 + c) [.int .u32 ((i : Int) * 64 + c)] (fun k => w.heap.size ≤ k) (fun _ => False) rfl rfl ?aP (fun _ hk => hk.elim) ?aF ?aO ?aB ?aS ?aL ?_; (case aP => exact rfl); (case aF => exact fun k hk => Nat.le_trans hB.out.size hk); (case aO => exact hR.out); (case aB => exact hB.out); (case aS => exact hB.out.size); (case aL => rw [HL2.out]; omega); intro v1 w1 ho hb hg hat; have HR1 := Lib.hid ho; have HB1 := Lib.hid hb; clear ho hb hg hat)
          go_roundw
          case rel =>
            refine ⟨k + 1, x &&& (x - 1), by first | rfl | (simp only [hand]), by omega, by omega, HREST, HLT, ?_, HB1⟩
            have e : ints (L.take (k + 1)) = ints (L.take k) ++ [(i : Int) * 64 + c] := by
              rw [HTAKE.out]
              simp [ints]
              omega
            rw [e]
            exact HR1
          case measure =>
            simp only [intOf]
            omega
    · have hkL : L.drop k = [] := by
        cases hd : L.drop k with
        | nil => rfl
        | cons m t =>
          exfalso
          have h1 := hge.out m (by rw [hd]; simp)
          have h2 := HO.out.lt m (List.mem_of_mem_drop (by rw [hd]; simp))
          have h3 := HO.out.len
          omega
      have hLk : L.take k = L := by
        have := List.take_append_drop k L
        rw [hkL, List.append_nil] at this
        exact this
      have HLK := Lib.hid hLk
      clear hkL hLk
      go_wp2_with fail
      go_ret
      rw [HLK.out] at hR
      exact ⟨_, rfl, hR.out, hB.out⟩
end Go.Proofs.YtkpdmbcefjjfgaaDoor.Sd
