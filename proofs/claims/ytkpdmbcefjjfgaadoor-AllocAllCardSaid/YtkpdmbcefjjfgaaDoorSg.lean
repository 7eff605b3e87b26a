/- AllocAll's walk: of as many as there are each one is taken once, rising, and then none. -/
import Derived.Test.YtkpdmbcefjjfgaaDoorSf
namespace Go.Proofs.YtkpdmbcefjjfgaaDoor.Sg
open Go.RowKit Go.Proofs.YtkpdmbcefjjfgaaDoorW.PrintWords Go.Proofs.YtkpdmbcefjjfgaaDoorW.PrintLast Go.Proofs.YtkpdmbcefjjfgaaDoorW.PrintMore Wd Sa Sb Sc Sd Se Sf

theorem ins_last (n : Nat) : ∀ L : List Nat, (∀ m, m ∈ L → m < n) → ins n L = L ++ [n]
  | [], _ => rfl
  | a :: r, h => by
    have h1 := h a (by simp)
    unfold ins
    rw [if_neg (by omega), ins_last n r (fun m hm => h m (by simp [hm]))]
    rfl
theorem low_range (i : Nat) : low 0 (List.range i) = i :=
  low_eq i (List.range i) 0 List.pairwise_lt_range (fun _ _ => Nat.zero_le _) (Nat.zero_le _) (by simp) (fun m _ h => by simpa using h)
theorem take_range {n i : Nat} (h : i < n) : takeNum n (List.range i) = i ∧ takeErr n (List.range i) = 0 ∧ takeOf n (List.range i) = List.range (i + 1) := by
  have hl : ¬ (List.range i).length = n := by simp; omega
  unfold takeNum takeErr takeOf
  rw [if_neg hl, if_neg hl, if_neg hl, low_range, ins_last i _ (fun m hm => by simpa using hm), List.range_succ]
  exact ⟨rfl, rfl, rfl⟩
theorem take_all (n : Nat) : takeNum n (List.range n) = 0 ∧ takeErr n (List.range n) = 21 ∧ takeOf n (List.range n) = List.range n := by
  have hl : (List.range n).length = n := by simp
  unfold takeNum takeErr takeOf
  rw [if_pos hl, if_pos hl, if_pos hl]
  exact ⟨rfl, rfl, rfl⟩
theorem tot_small (n : Nat) (h : n ≤ 65536) : totOf (n : Int) = n := by
  unfold totOf
  (repeat' split) <;> omega
set_option maxHeartbeats 1000000 in
theorem all_core (t n : Nat) (ht16 : t < 65536) (hn : t % 3000 = n) {w : World} (ht : Tab w) : Calls Tryd.prog 5 #[.int .u16 (t : Int)] w fun e w' => e = .returned (.bool true) ∧ Below w.heap.size w w' := by
  have h0 := Tab.pos ht
  have HT := Lib.hid ht
  have hn2 : n < 3000 := by omega
  have hnt : totOf (n : Int) = n := tot_small n (by omega)
  have hmod : (t : Int) % 3000 = (n : Int) := by omega
  have HN := Lib.hid hn
  clear ht hn
  go_enter Tryd.func5, Tryd.ntmps5
  go_wp2_with fail
  refine (new_any n w).mono ?_
  rintro e w1 ⟨sb, wb, rfl, hs, hb, h1, h2⟩
  rw [hnt] at hs
  have HS := Lib.hid hs
  have HB := Lib.hid hb
  have HT1 := Lib.hid (Tab.below HT.out hb h0)
  clear hs hb HT hnt
  go_wp2_with fail
  go_loopw [5] (fun v wr => ∃ i : Nat, v = .int .i64 i ∧ i ≤ n ∧ Go.RowKit.Hid (SetAt wr sb wb n (List.range i)) ∧ Go.RowKit.Hid (Tab wr) ∧ Go.RowKit.Hid (Below w.heap.size w wr)) (fun v _ => n - (intOf v).toNat)
  case atStart => exact ⟨0, rfl, Nat.zero_le _, HS, HT1, HB⟩
  case round =>
    obtain ⟨i, rfl, hi, hs, ht, hb⟩ := hrel
    by_cases hlt : i < n
    · have htk := take_any hs.out ht.out
      obtain ⟨e1, e2, e3⟩ := take_range hlt
      rw [e1, e2, e3] at htk
      clear e1 e2 e3
      go_wp2_with fail
      refine htk.mono ?_
      rintro e w2 ⟨rfl, hs2, hk⟩
      have HS2 := Lib.hid hs2
      have HT2 := Lib.hid (Tab.keep ht.out hk (two_no (by omega) (by omega)))
      have HB2 := Lib.hid (hk.below hb.out hb.out.size (two_ge h1 h2))
      clear hs2 hk hs ht hb htk
      have hmod2 : (i : Int) % 4294967296 = i := by omega
      go_wp2_with fail
      exact ⟨⟨i + 1, rfl, by omega, HS2, HT2, HB2⟩, by simp only [intOf]; omega⟩
    · obtain rfl : i = n := by omega
      have htk := take_any hs.out ht.out
      obtain ⟨e1, e2, e3⟩ := take_all i
      rw [e1, e2, e3] at htk
      clear e1 e2 e3
      go_wp2_with fail
      refine htk.mono ?_
      rintro e w2 ⟨rfl, hs2, hk⟩
      have HS2 := Lib.hid hs2
      have HT2 := Lib.hid (Tab.keep ht.out hk (two_no (by omega) (by omega)))
      have HB2 := Lib.hid (hk.below hb.out hb.out.size (two_ge h1 h2))
      clear hs2 hk hs ht hb htk
      have hu := used_any HS2.out
      have hf := free_any HS2.out
      rw [List.length_range] at hu hf
      rw [Int.sub_self] at hf
      go_wp2_with fail
      refine hu.mono ?_
      rintro e w' ⟨rfl, rfl⟩
      clear hu
      go_wp2_with fail
      refine hf.mono ?_
      rintro e w3 ⟨rfl, hk⟩
      have HT3 := Lib.hid (Tab.keep HT2.out hk id)
      have HB3 := Lib.hid (hk.below HB2.out HB2.out.size (fun _ h => h.elim))
      clear hk hf HS2 HT2 HB2
      go_wp2_with fail
      refine (awake_any HT3.out).mono ?_
      rintro e w4 ⟨rfl, hb4⟩
      have HB4 := Lib.hid (HB3.out.trans (hb4.mono HB3.out.size))
      clear hb4
      go_wp2_with fail
      go_ret
      exact ⟨rfl, HB4.out⟩
theorem nat_of {k : IntKind} {a : Int} (w : (Lit.int k a).wf = true) (hk : k.min = 0) : ∃ n : Nat, a = n := by
  have : 0 ≤ a := by
    have h := w
    simp only [Lit.wf, Bool.and_eq_true, decide_eq_true_eq] at h
    omega
  exact Int.eq_ofNat_of_zero_le this
theorem all (a : Int) (wf : (Lit.int .u16 a).wf = true) {w : World} (ht : Tab w) : Calls Tryd.prog 5 #[.int .u16 a] w fun e w' => e = .returned (.bool true) ∧ Below w.heap.size w w' := by
  obtain ⟨n, rfl⟩ := nat_of wf rfl
  have h : (n : Int) ≤ 65535 := by
    have h := wf
    simp only [Lit.wf, Bool.and_eq_true, decide_eq_true_eq] at h
    exact h.2
  exact all_core n _ (by omega) rfl ht
end Go.Proofs.YtkpdmbcefjjfgaaDoor.Sg
