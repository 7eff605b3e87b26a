/- AllocLists' walk: what is told to be used is rising, and just what was marked. -/
import Derived.Test.YtkpdmbcefjjfgaaDoorSi
namespace Go.Proofs.YtkpdmbcefjjfgaaDoor.Sh
open Go.RowKit Go.Proofs.YtkpdmbcefjjfgaaDoorW.PrintWords Go.Proofs.YtkpdmbcefjjfgaaDoorW.PrintLast Go.Proofs.YtkpdmbcefjjfgaaDoorW.PrintMore Wd Sa Sb Sc Sd Se Sf Si

theorem tot_small (n : Nat) (h : n ≤ 65536) : totOf (n : Int) = n := by
  unfold totOf
  (repeat' split) <;> omega
def marks (T : Nat) (l : List Nat) : List Nat := l.foldl (markOf T) []
theorem mem_markOf (T : Nat) (L : List Nat) (m n : Nat) : n ∈ markOf T L m ↔ n ∈ L ∨ (n = m ∧ m < T) := by
  unfold markOf
  split
  · rename_i h
    exact ⟨.inl, fun e => e.elim id (fun e => by omega)⟩
  · rename_i h
    split
    · rename_i hm
      exact ⟨.inl, fun e => e.elim id (fun e => e.1 ▸ hm)⟩
    · rw [mem_ins]
      exact ⟨fun e => e.elim (fun e => .inr ⟨e, by omega⟩) .inl, fun e => e.elim .inr (fun e => .inl e.1)⟩
theorem mem_foldl (T n : Nat) : ∀ (l L : List Nat), n ∈ l.foldl (markOf T) L ↔ n ∈ L ∨ (n < T ∧ n ∈ l)
  | [], L => by simp
  | m :: r, L => by
    rw [List.foldl_cons, mem_foldl T n r, mem_markOf]
    simp only [List.mem_cons]
    constructor
    · rintro ((h | ⟨rfl, h⟩) | ⟨h1, h2⟩)
      · exact .inl h
      · exact .inr ⟨h, .inl rfl⟩
      · exact .inr ⟨h1, .inr h2⟩
    · rintro (h | ⟨h1, rfl | h2⟩)
      · exact .inl (.inl h)
      · exact .inl (.inr ⟨rfl, h1⟩)
      · exact .inr ⟨h1, h2⟩
theorem mem_marks (T n : Nat) (l : List Nat) : n ∈ marks T l ↔ n < T ∧ n ∈ l := by
  unfold marks
  rw [mem_foldl]
  simp
theorem marks_succ (T : Nat) (zs : List Nat) {i x : Nat} (h : zs[i]? = some x) : marks T (zs.take (i + 1)) = markOf T (marks T (zs.take i)) x := by
  have hl : i < zs.length := by
    rcases Nat.lt_or_ge i zs.length with h1 | h1
    · exact h1
    · rw [List.getElem?_eq_none h1] at h; cases h
  have hx : zs[i] = x := by rw [List.getElem?_eq_getElem hl] at h; exact Option.some.inj h
  unfold marks
  rw [List.take_succ_eq_append_getElem hl, List.foldl_append, hx]
  rfl
theorem has_drawn {w : World} {sb wb T : Nat} {L : List Nat} (h : SetAt w sb wb T L) (n : Nat) (hn : n < 4294967296) (nd m : Nat) :
    Calls Tryd.prog 18 #[.pointer (some ⟨sb, 0, none⟩), .int .u32 n] (w.drewN (nd + m)) fun e w'' => e = .returned (.bool (decide (n ∈ L))) ∧ ∃ k, w'' = w.drewN (nd + k) :=
  (has_any (h.kept (Kept.drewN (Kept.refl w No) _) id id) n hn).mono fun _ _ ⟨he, hm⟩ => ⟨he, m, hm.symm⟩

set_option maxHeartbeats 1000000 in
theorem lists (t : Nat) (ht16 : t < 65536) (A : Option Addr) (cap : Nat) (zs : List Nat) {w : World} (hz : Row .u32 w A zs) (h32 : ∀ n, n ∈ zs → n < 4294967296) (hlen : zs.length ≤ maxLen) (ht : Tab w) :
    Calls Tryd.prog 6 #[.int .u16 (t : Int), .slice A zs.length cap] w fun e w' => e = .returned (.bool true) ∧ Below w.heap.size w w' := by
  unfold maxLen at hlen
  have h0 := Tab.pos ht
  have HT := Lib.hid ht
  have HZ := Lib.hid hz
  have H32 := Lib.hid h32
  clear ht hz h32
  by_cases hbig : 200 < zs.length
  · go_enter Tryd.func6, Tryd.ntmps6
    go_wp2_with fail
    refine (awake_any HT.out).mono ?_
    rintro e w' ⟨rfl, hb⟩
    have HB := Lib.hid hb
    clear hb
    go_wp2_with fail
    go_ret
    exact ⟨rfl, HB.out⟩
  have hsm : zs.length ≤ 200 := by omega
  clear hbig
  have hnt : totOf (t : Int) = t := tot_small t (by omega)
  go_enter Tryd.func6, Tryd.ntmps6
  go_wp2_with fail
  refine (new_any t w).mono ?_
  rintro e w1 ⟨sb, wb, rfl, hs, hb, h1, h2⟩
  rw [hnt] at hs
  have HS := Lib.hid hs
  have HB := Lib.hid hb
  have HT1 := Lib.hid (Tab.below HT.out hb h0)
  clear hs hb HT hnt
  go_wp2_with fail
  go_loopw [6] (fun v wr => ∃ i : Nat, v = .int .i64 i ∧ i ≤ zs.length ∧ Go.RowKit.Hid (SetAt wr sb wb t (marks t (zs.take i))) ∧ Go.RowKit.Hid (Tab wr) ∧ Go.RowKit.Hid (Below w.heap.size w wr)) (fun v _ => zs.length - (intOf v).toNat)
  case atStart => exact ⟨0, rfl, Nat.zero_le _, HS, HT1, HB⟩
  case round =>
    clear HS HT1 HB
    obtain ⟨i, rfl, hi, hs, ht, hb⟩ := hrel
    by_cases hlt : i < zs.length
    · obtain ⟨x, hx⟩ : ∃ x, zs[i]? = some x := ⟨zs[i], List.getElem?_eq_getElem hlt⟩
      obtain ⟨b, off, hA, hbl, hc0⟩ := HZ.out i x hx
      have hc := (hb.out.cell (p := ⟨b, off + i, none⟩) hbl).trans hc0
      have hmk := mark_any hs.out x (H32.out x (List.mem_of_getElem? hx))
      rw [← marks_succ t zs hx] at hmk
      subst hA
      clear hx hc0 hbl
      go_wp2_with fail
      refine hmk.mono ?_
      rintro e w2 ⟨rfl, hs2, hk⟩
      have HS2 := Lib.hid hs2
      have HT2 := Lib.hid (Tab.keep ht.out hk (two_no (by omega) (by omega)))
      have HB2 := Lib.hid (hk.below hb.out hb.out.size (two_ge h1 h2))
      clear hs2 hk hs ht hb hmk hc
      go_wp2_with fail
      exact ⟨⟨i + 1, rfl, by omega, HS2, HT2, HB2⟩, by simp only [intOf]; omega⟩
    · obtain rfl : i = zs.length := by omega
      rw [List.take_length] at hs
      go_wp2_with fail
      refine (list_any hs.out ht.out).mono ?_
      rintro e w2 ⟨v, rfl, hr, hb2⟩
      have hown := own_list hr
      have hlt2 := SetAt.lt hs.out
      have HS2 := Lib.hid (SetAt.below hs.out hb2 hlt2.1 hlt2.2)
      have HT2 := Lib.hid (Tab.below ht.out hb2 (Tab.pos ht.out))
      have HB2 := Lib.hid (hb.out.trans (hb2.mono hb.out.size))
      obtain ⟨A2, cap2, rfl, hcap⟩ := hown.slice
      have HOWN := Lib.hid hown
      have hL : (marks t zs).length ≤ 65536 := by
        obtain ⟨ws, ho⟩ := SetAt.ok HS2.out
        exact Nat.le_trans ho.length_le ho.big
      clear hr hb2 hown hs ht hb hlt2
      go_wp2_with fail
      go_loopw [8] (fun v wr => ∃ i nd : Nat, v = .int .i64 i ∧ i ≤ (marks t zs).length ∧ wr = w2.drewN nd) (fun v _ => (marks t zs).length - (intOf v).toNat)
      case atStart => exact ⟨0, 0, rfl, Nat.zero_le _, rfl⟩
      case round =>
        obtain ⟨j, nd, rfl, hj, rfl⟩ := hrel
        by_cases hjl : j < (marks t zs).length
        · obtain ⟨y, hy⟩ : ∃ y, (marks t zs)[j]? = some y := ⟨_, List.getElem?_eq_getElem hjl⟩
          obtain ⟨g, rfl, hc⟩ := HOWN.out.cell hy
          have hmem := (mem_marks t y zs).1 (List.mem_of_getElem? hy)
          have hyt := hmem.1
          have hhas : ∀ m, Calls Tryd.prog 18 #[.pointer (some ⟨sb, 0, none⟩), .int .u32 (y : Int)] (w2.drewN (nd + m)) fun e w'' => e = .returned (.bool true) ∧ ∃ k, w'' = w2.drewN (nd + k) := fun m => by
            have := has_drawn HS2.out y (by omega) nd m
            rwa [decide_eq_true (List.mem_of_getElem? hy)] at this
          have HH := Lib.hid hhas
          have hge : decide ((t : Int) ≤ y) = false := decide_eq_false (by omega)
          clear hmem hhas
          by_cases hj0 : j = 0
          · subst hj0
            clear hy
            go_wp2_with fail
            go_big_quiet (first | (go_at_call 18; exact HH.out _))
            go_wp2_with fail
            exact ⟨⟨1, _, rfl, by omega, rfl⟩, by simp only [intOf]; omega⟩
          · obtain ⟨k, rfl⟩ : ∃ k, j = k + 1 := ⟨j - 1, by omega⟩
            obtain ⟨z, hz⟩ : ∃ z, (marks t zs)[k]? = some z := ⟨_, List.getElem?_eq_getElem (by omega)⟩
            obtain ⟨g2, hg2, hc2⟩ := HOWN.out.cell hz
            obtain rfl : g = g2 := by simpa using hg2
            have hup : z < y := by
              obtain ⟨ws, ho⟩ := SetAt.ok HS2.out
              have hk1 : k < (marks t zs).length := by omega
              have e1 : (marks t zs)[k] = z := by rw [List.getElem?_eq_getElem hk1] at hz; exact Option.some.inj hz
              have e2 : (marks t zs)[k + 1] = y := by rw [List.getElem?_eq_getElem hjl] at hy; exact Option.some.inj hy
              have := List.pairwise_iff_getElem.1 ho.up k (k + 1) hk1 hjl (by omega)
              omega
            have hle : decide (y ≤ z) = false := decide_eq_false (by omega)
            clear hg2 hz hy hup
            go_wp2_with fail
            go_big_quiet (first | (go_at_call 18; exact HH.out _))
            go_wp2_with fail
            exact ⟨⟨k + 1 + 1, _, rfl, by omega, rfl⟩, by simp only [intOf]; omega⟩
        · go_wp2_with fail
          go_loopw [9] (fun v wr => ∃ i nd : Nat, v = .int .i64 i ∧ i ≤ zs.length ∧ wr = w2.drewN nd) (fun v _ => zs.length - (intOf v).toNat)
          case atStart => exact ⟨0, _, rfl, Nat.zero_le _, rfl⟩
          case round =>
            obtain ⟨i, nd2, rfl, hi, rfl⟩ := hrel
            by_cases hlt : i < zs.length
            · obtain ⟨x, hx⟩ : ∃ x, zs[i]? = some x := ⟨zs[i], List.getElem?_eq_getElem hlt⟩
              obtain ⟨b, off, hA, hbl, hc0⟩ := HZ.out i x hx
              have hc : w2.cell? ⟨b, off + i, none⟩ = some (.int .u32 (x : Int)) := (HB2.out.cell (p := ⟨b, off + i, none⟩) hbl).trans hc0
              have hx32 := H32.out x (List.mem_of_getElem? hx)
              have hiff := mem_marks t x zs
              have hxz : x ∈ zs := List.mem_of_getElem? hx
              subst hA
              by_cases hxt : x < t
              · have HH := Lib.hid (show ∀ m, Calls Tryd.prog 18 #[.pointer (some ⟨sb, 0, none⟩), .int .u32 (x : Int)] (w2.drewN (nd2 + m)) fun e w'' => e = .returned (.bool true) ∧ ∃ k, w'' = w2.drewN (nd2 + k) from fun m => by
                  have := has_drawn HS2.out x (by omega) nd2 m
                  rwa [decide_eq_true (hiff.2 ⟨hxt, hxz⟩)] at this)
                have hdt : decide ((x : Int) < t) = true := decide_eq_true (by omega)
                clear hx hc0 hbl hiff hxz
                go_wp2_with fail
                go_big_quiet (first | (go_at_call 18; exact HH.out _))
                go_wp2_with fail
                exact ⟨⟨i + 1, _, rfl, by omega, rfl⟩, by simp only [intOf]; omega⟩
              · have HH := Lib.hid (show ∀ m, Calls Tryd.prog 18 #[.pointer (some ⟨sb, 0, none⟩), .int .u32 (x : Int)] (w2.drewN (nd2 + m)) fun e w'' => e = .returned (.bool false) ∧ ∃ k, w'' = w2.drewN (nd2 + k) from fun m => by
                  have := has_drawn HS2.out x (by omega) nd2 m
                  rwa [decide_eq_false (fun h => hxt (hiff.1 h).1)] at this)
                have hdt : decide ((x : Int) < t) = false := decide_eq_false (by omega)
                clear hx hc0 hbl hiff hxz
                go_wp2_with fail
                go_big_quiet (first | (go_at_call 18; exact HH.out _))
                go_wp2_with fail
                exact ⟨⟨i + 1, _, rfl, by omega, rfl⟩, by simp only [intOf]; omega⟩
            · have hu := used_any (HS2.out.kept (Kept.drewN (Kept.refl w2 No) nd2) id id)
              go_wp2_with fail
              refine hu.mono ?_
              rintro e w3 ⟨rfl, rfl⟩
              clear hu
              go_wp2_with fail
              refine (awake_any (HT2.out.kept (Kept.drewN (Kept.refl w2 No) nd2) id)).mono ?_
              rintro e w4 ⟨rfl, hb4⟩
              have HB4 := Lib.hid ((Se.below_of HB2.out ⟨rfl, rfl, rfl, rfl⟩ ⟨rfl, rfl, rfl, rfl⟩ : Below w.heap.size w (w2.drewN nd2)).trans (hb4.mono (show w.heap.size ≤ (w2.drewN nd2).heap.size from HB2.out.size)))
              clear hb4
              go_wp2_with fail
              go_ret
              exact ⟨rfl, HB4.out⟩
theorem lists_law (a : Int) (wf : (Lit.int .u16 a).wf = true) (A : Option Addr) (len cap : Nat) (zs : List Nat) {w : World} (hl : zs.length = len) (hm : len ≤ maxLen) (hb : ∀ n : Nat, n ∈ zs → (n : Int) ≤ IntKind.u32.max) (hz : Row .u32 w A zs) (ht : Tab w) :
    Calls Tryd.prog 6 #[.int .u16 a, .slice A len cap] w fun e w' => e = .returned (.bool true) ∧ Below w.heap.size w w' := by
  obtain ⟨n, rfl, hn⟩ := nat_of wf rfl
  subst hl
  have e16 : IntKind.u16.max = 65535 := rfl
  have e32 : IntKind.u32.max = 4294967295 := rfl
  exact lists n (by omega) A cap zs hz (fun m hm => by have := hb m hm; omega) hm ht
end Go.Proofs.YtkpdmbcefjjfgaaDoor.Sh
