/- AllocLowest's walk: what is taken was free, and all below it were used; when nothing is told to be free, nothing is. -/
import Derived.Test.YtkpdmbcefjjfgaaDoorSi
namespace Go.Proofs.YtkpdmbcefjjfgaaDoor.Sj
open Go.RowKit Go.Proofs.YtkpdmbcefjjfgaaDoorW.PrintWords Go.Proofs.YtkpdmbcefjjfgaaDoorW.PrintLast Go.Proofs.YtkpdmbcefjjfgaaDoorW.PrintMore Wd Sa Sb Sc Sd Se Sf Si

theorem tot_small (n : Nat) (h : n ≤ 65536) : totOf (n : Int) = n := by
  unfold totOf
  (repeat' split) <;> omega
theorem free_of {w : World} {sb wb T : Nat} {L : List Nat} (h : SetAt w sb wb T L) {f : Int} (hf : f = (T : Int) - L.length) : Calls Tryd.prog 20 #[.pointer (some ⟨sb, 0, none⟩)] w fun e w' => e = .returned (.int .i64 f) ∧ Keep No w w' := by
  subst hf
  exact free_any h
theorem has_of {w : World} {sb wb T : Nat} {L : List Nat} (h : SetAt w sb wb T L) (n : Nat) (hn : n < 4294967296) {b : Bool} (hb : b = true ↔ n ∈ L) :
    Calls Tryd.prog 18 #[.pointer (some ⟨sb, 0, none⟩), .int .u32 n] w fun e w' => e = .returned (.bool b) ∧ w = w' := by
  have := has_any h n hn
  have e : decide (n ∈ L) = b := by
    cases b
    · exact decide_eq_false (fun hm => by have := hb.2 hm; cases this)
    · exact decide_eq_true (hb.1 rfl)
  rwa [e] at this

set_option maxRecDepth 10000 in
set_option maxHeartbeats 2000000 in
theorem lowest (t n : Nat) (ht8 : t < 256) (hn : t % 65 = n) (A : Option Addr) (cap : Nat) (zs : List Nat) {w : World} (hz : Row .u8 w A zs) (h8 : ∀ n, n ∈ zs → n < 256) (hlen : zs.length ≤ maxLen) (ht : Tab w) :
    Calls Tryd.prog 7 #[.int .u8 (t : Int), .slice A zs.length cap] w fun e w' => e = .returned (.bool true) ∧ Below w.heap.size w w' := by
  unfold maxLen at hlen
  have h0 := Tab.pos ht
  have HT := Lib.hid ht
  have HZ := Lib.hid hz
  have H8 := Lib.hid h8
  have hn2 : n < 65 := by omega
  have hnt : totOf (n : Int) = n := tot_small n (by omega)
  have hmod : (t : Int) % 65 = (n : Int) := by omega
  clear ht hz h8 hn
  go_enter Tryd.func7, Tryd.ntmps7
  go_wp2_with fail
  refine (new_any n w).mono ?_
  rintro e w1 ⟨sb, wb, rfl, hs, hb, h1, h2⟩
  rw [hnt] at hs
  have HS := Lib.hid hs
  have HB := Lib.hid hb
  have HT1 := Lib.hid (Tab.below HT.out hb h0)
  clear hs hb HT hnt
  go_wp2_with fail
  go_loopw [7] (fun v wr => ∃ (i : Nat) (L : List Nat), v = .int .i64 i ∧ i ≤ zs.length ∧ Go.RowKit.Hid (SetAt wr sb wb n L) ∧ Go.RowKit.Hid (Tab wr) ∧ Go.RowKit.Hid (Below w.heap.size w wr)) (fun v _ => zs.length - (intOf v).toNat)
  case atStart => exact ⟨0, [], rfl, Nat.zero_le _, HS, HT1, HB⟩
  case round =>
    clear HS HT1 HB
    obtain ⟨i, L, rfl, hi, hs, ht, hb⟩ := hrel
    by_cases hlt : i < zs.length
    · obtain ⟨x, hx⟩ : ∃ x, zs[i]? = some x := ⟨zs[i], List.getElem?_eq_getElem hlt⟩
      obtain ⟨b, off, hA, hbl, hc0⟩ := HZ.out i x hx
      have hc := (hb.out.cell (p := ⟨b, off + i, none⟩) hbl).trans hc0
      have hx8 := H8.out x (List.mem_of_getElem? hx)
      have HBL := Lib.hid hbl
      subst hA
      obtain ⟨y, hy⟩ : ∃ y, x / 3 = y := ⟨_, rfl⟩
      have hdiv : (x : Int) / 3 = (y : Int) := by omega
      have hy85 : y ≤ 85 := by omega
      clear hx hc0 hbl hy
      rcases (show x % 3 = 0 ∨ x % 3 = 1 ∨ x % 3 = 2 by omega) with h3 | h3 | h3
      · have hq : (x : Int) % 3 = 0 := by omega
        clear h3
        go_upto_region 9 with fail
        clear hq
        go_wp2_with fail
        have hmk := mark_any hs.out y (by omega)
        refine hmk.mono ?_
        rintro e w2 ⟨rfl, hs2, hk⟩
        have HS2 := Lib.hid hs2
        have HT2 := Lib.hid (Tab.keep ht.out hk (two_no (by omega) (by omega)))
        have HB2 := Lib.hid (hk.below hb.out hb.out.size (two_ge h1 h2))
        clear hs2 hk hs ht hb hmk hc
        go_wp2_with fail
        exact ⟨⟨i + 1, _, rfl, by omega, HS2, HT2, HB2⟩, by simp only [intOf]; omega⟩
      · have hq : (x : Int) % 3 = 1 := by omega
        clear h3
        go_upto_region 11 with fail
        clear hq
        go_wp2_with fail
        have hmk := clear_any hs.out y (by omega)
        refine hmk.mono ?_
        rintro e w2 ⟨rfl, hs2, hk⟩
        have HS2 := Lib.hid hs2
        have HT2 := Lib.hid (Tab.keep ht.out hk (two_no (by omega) (by omega)))
        have HB2 := Lib.hid (hk.below hb.out hb.out.size (two_ge h1 h2))
        clear hs2 hk hs ht hb hmk hc
        go_wp2_with fail
        exact ⟨⟨i + 1, _, rfl, by omega, HS2, HT2, HB2⟩, by simp only [intOf]; omega⟩
      · have hq : (x : Int) % 3 = 2 := by omega
        clear h3
        have hLn : L.length ≤ n := by
          obtain ⟨ws, ho⟩ := SetAt.ok hs.out
          exact ho.length_le
        obtain ⟨f, hf⟩ : ∃ f : Nat, n = L.length + f := ⟨n - L.length, by omega⟩
        have hfree := free_of hs.out (f := (f : Int)) (by omega)
        have HF := Lib.hid hf
        have hf64 : f < 65 := by omega
        clear hf
        go_wp2_with fail
        refine hfree.mono ?_
        rintro e w2 ⟨rfl, hk⟩
        have HS2 := Lib.hid (SetAt.keep hs.out hk id id)
        have HT2 := Lib.hid (Tab.keep ht.out hk id)
        have HB2 := Lib.hid (hk.below hb.out hb.out.size (fun _ h => h.elim))
        clear hk hs ht hb hfree hc hq hdiv
        go_wp2_with fail
        refine (fork_any HS2.out).mono ?_
        rintro e w3 ⟨s2, v2, rfl, hsf, hbf, hf1, hf2⟩
        have hlt2 := SetAt.lt HS2.out
        have HSF := Lib.hid hsf
        have HS3 := Lib.hid (SetAt.below HS2.out hbf hlt2.1 hlt2.2)
        have HT3 := Lib.hid (Tab.below HT2.out hbf (Tab.pos HT2.out))
        have HB3 := Lib.hid (HB2.out.trans (hbf.mono HB2.out.size))
        have HNE := Lib.hid (show ¬ Two sb wb s2 ∧ ¬ Two sb wb v2 from ⟨fun h => by rcases h with rfl | rfl <;> omega, fun h => by rcases h with rfl | rfl <;> omega⟩)
        clear hsf hbf hlt2 HS2 HT2 HB2 hf1 hf2
        by_cases hfull : L.length = n
        · have htk := take_any HS3.out HT3.out
          unfold takeNum takeErr takeOf at htk
          rw [if_pos hfull, if_pos hfull, if_pos hfull] at htk
          obtain rfl : f = 0 := by have := HF.out; omega
          clear hfull
          go_wp2_with fail
          refine htk.mono ?_
          rintro e w4 ⟨rfl, hs4, hk⟩
          have HS4 := Lib.hid hs4
          have HT4 := Lib.hid (Tab.keep HT3.out hk (two_no (by omega) (by omega)))
          have HB4 := Lib.hid (hk.below HB3.out HB3.out.size (two_ge h1 h2))
          clear hs4 hk htk HS3 HT3 HB3
          go_wp2_with fail
          go_loopw [12] (fun v wr => v = .int .i64 0 ∧ wr = w4) (fun _ _ => 0)
          case atStart => exact ⟨rfl, rfl⟩
          case round =>
            obtain ⟨rfl, rfl⟩ := hrel
            go_wp2_with fail
            exact ⟨⟨i + 1, L, rfl, by omega, HS4, HT4, HB4⟩, by simp only [intOf]; omega⟩
        · have htk := take_any HS3.out HT3.out
          unfold takeNum takeErr takeOf at htk
          rw [if_neg hfull, if_neg hfull, if_neg hfull] at htk
          have hfp : 0 < f := by have := HF.out; omega
          have HFULL := Lib.hid hfull
          obtain ⟨q, hq0⟩ : ∃ q, low 0 L = q := ⟨_, rfl⟩
          have hup : L.Pairwise (· < ·) := by
            obtain ⟨ws, ho⟩ := SetAt.ok HSF.out
            exact ho.up
          have hqn : q < n := by have := low_le L 0; omega
          have HQ1 := Lib.hid (show q ∉ L by rw [← hq0]; exact (low_not L 0 hup (fun _ _ => Nat.zero_le _)).1)
          have HQ2 := Lib.hid (show ∀ j, j < q → j ∈ L by intro j hj; exact low_below L 0 j (Nat.zero_le _) (by omega))
          rw [hq0] at htk
          have hnq : decide (n ≤ q) = false := decide_eq_false (by omega)
          clear hfull hq0 hup
          go_wp2_with fail
          refine htk.mono ?_
          rintro e w4 ⟨rfl, hs4, hk⟩
          have HS4 := Lib.hid hs4
          have HSF4 := Lib.hid (SetAt.keep HSF.out hk HNE.out.1 HNE.out.2)
          have HT4 := Lib.hid (Tab.keep HT3.out hk (two_no (by omega) (by omega)))
          have HB4 := Lib.hid (hk.below HB3.out HB3.out.size (two_ge h1 h2))
          clear hs4 hk htk HS3 HT3 HB3 HSF HNE
          go_wp2_with fail
          refine (has_of HSF4.out q (by omega) (b := false) ⟨fun h => absurd h Bool.false_ne_true, fun h => absurd h HQ1.out⟩).mono ?_
          rintro e w5 ⟨rfl, rfl⟩
          go_wp2_with fail
          refine (has_of HS4.out q (by omega) (b := true) ⟨fun _ => (mem_ins q q L).2 (.inl rfl), fun _ => rfl⟩).mono ?_
          rintro e w5 ⟨rfl, rfl⟩
          go_wp2_with fail
          refine (free_of HS4.out (f := (f : Int) - 1) (by rw [length_ins]; have := HF.out; omega)).mono ?_
          rintro e w5 ⟨rfl, hk⟩
          have HS5 := Lib.hid (SetAt.keep HS4.out hk id id)
          have HSF5 := Lib.hid (SetAt.keep HSF4.out hk id id)
          have HT5 := Lib.hid (Tab.keep HT4.out hk id)
          have HB5 := Lib.hid (hk.below HB4.out HB4.out.size (fun _ h => h.elim))
          clear hk HS4 HSF4 HT4 HB4
          go_wp2_with fail
          go_loopw [12] (fun v wr => ∃ j : Nat, v = .int .i64 j ∧ j ≤ q ∧ wr = w5) (fun v _ => q - (intOf v).toNat)
          case atStart => exact ⟨0, rfl, Nat.zero_le _, rfl⟩
          case round =>
            obtain ⟨j, rfl, hj, rfl⟩ := hrel
            by_cases hjq : j < q
            · go_wp2_with fail
              refine (has_of HSF5.out j (by omega) (b := true) ⟨fun _ => HQ2.out j hjq, fun _ => rfl⟩).mono ?_
              rintro e w6 ⟨rfl, rfl⟩
              go_wp2_with fail
              go_roundw
              case rel => exact ⟨j + 1, rfl, by omega, trivial⟩
              case measure => simp only [intOf]; omega
            · obtain rfl : j = q := by omega
              go_wp2_with fail
              exact ⟨⟨i + 1, _, rfl, by omega, HS5, HT5, HB5⟩, by simp only [intOf]; omega⟩
    · have hu := used_any hs.out
      have hLn : L.length ≤ n := by
        obtain ⟨ws, ho⟩ := SetAt.ok hs.out
        exact ho.length_le
      obtain ⟨f, hf⟩ : ∃ f : Nat, n = L.length + f := ⟨n - L.length, by omega⟩
      have HF := Lib.hid hf
      have hsum : (L.length : Int) + (f : Int) = (n : Int) := by omega
      clear hf
      go_wp2_with fail
      refine hu.mono ?_
      rintro e w2 ⟨rfl, rfl⟩
      clear hu
      go_wp2_with fail
      refine (free_of hs.out (f := (f : Int)) (by have := HF.out; omega)).mono ?_
      rintro e w3 ⟨rfl, hk⟩
      have HS3 := Lib.hid (SetAt.keep hs.out hk id id)
      have HT3 := Lib.hid (Tab.keep ht.out hk id)
      have HB3 := Lib.hid (hk.below hb.out hb.out.size (fun _ h => h.elim))
      clear hk hs ht hb
      go_wp2_with fail
      refine (total_any HS3.out).mono ?_
      rintro e w4 ⟨rfl, rfl⟩
      go_wp2_with fail
      refine (awake_any HT3.out).mono ?_
      rintro e w5 ⟨rfl, hb5⟩
      have HB5 := Lib.hid (HB3.out.trans (hb5.mono HB3.out.size))
      clear hb5
      go_wp2_with fail
      go_ret
      exact ⟨rfl, HB5.out⟩
theorem lowest_law (a : Int) (wf : (Lit.int .u8 a).wf = true) (A : Option Addr) (len cap : Nat) (zs : List Nat) {w : World} (hl : zs.length = len) (hm : len ≤ maxLen) (hb : ∀ n : Nat, n ∈ zs → (n : Int) ≤ IntKind.u8.max) (hz : Row .u8 w A zs) (ht : Tab w) :
    Calls Tryd.prog 7 #[.int .u8 a, .slice A len cap] w fun e w' => e = .returned (.bool true) ∧ Below w.heap.size w w' := by
  obtain ⟨n, rfl, hn⟩ := nat_of wf rfl
  subst hl
  have e8 : IntKind.u8.max = 255 := rfl
  exact lowest n _ (by omega) rfl A cap zs hz (fun m hm => by have := hb m hm; omega) hm ht
end Go.Proofs.YtkpdmbcefjjfgaaDoor.Sj
