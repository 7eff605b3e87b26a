/- What the reference's functions tell, over a rising list of numbers. -/
import Derived.Test.YtkpdmbcefjjfgaaDoorPAllocPlaysx1
import Derived.Test.YtkpdmbcefjjfgaaDoorSf
namespace Go.Proofs.YtkpdmbcefjjfgaaDoor.Rp
open Go.RowKit Go.Proofs.YtkpdmbcefjjfgaaDoorW.PrintWords Go.Proofs.YtkpdmbcefjjfgaaDoorW.PrintLast Go.Proofs.YtkpdmbcefjjfgaaDoorW.PrintMore Wd Sa Sb Sc Sd PAllocPlays

def pos (n : Nat) : List Nat → Nat
  | [] => 0
  | m :: r => if m < n then pos n r + 1 else 0
theorem pos_le (n : Nat) : ∀ L, pos n L ≤ L.length
  | [] => Nat.le_refl _
  | m :: r => by
    unfold pos
    split
    · have := pos_le n r; simp only [List.length_cons]; omega
    · exact Nat.zero_le _
theorem ins_pos (n : Nat) : ∀ L, n ∉ L → ins n L = L.take (pos n L) ++ n :: L.drop (pos n L)
  | [], _ => rfl
  | m :: r, h => by
    have hm : m ≠ n := fun e => h (by simp [e])
    have hr : n ∉ r := fun e => h (by simp [e])
    unfold ins pos
    by_cases hlt : n < m
    · rw [if_pos hlt, if_neg (by omega)]; rfl
    · rw [if_neg hlt, if_pos (by omega), ins_pos n r hr]; rfl
theorem out_pos (n : Nat) : ∀ L : List Nat, L.Pairwise (· < ·) → n ∈ L → L.filter (· ≠ n) = L.take (pos n L) ++ L.drop (pos n L + 1) ∧ pos n L < L.length
  | m :: r, hup, h => by
    have hc := List.pairwise_cons.1 hup
    unfold pos
    by_cases hm : m = n
    · subst hm
      rw [if_neg (Nat.lt_irrefl m)]
      have : r.filter (· ≠ m) = r := List.filter_eq_self.2 (fun a ha => by have := hc.1 a ha; simp; omega)
      rw [List.filter_cons, this]
      simp
    · have hr : n ∈ r := by rcases List.mem_cons.1 h with e | e; exact absurd e.symm hm; exact e
      have hlt : m < n := hc.1 n hr
      obtain ⟨ih, ih2⟩ := out_pos n r hc.2 hr
      rw [if_pos hlt, List.filter_cons, ih]
      simp [hm]
      exact ih2
theorem length_ints (L : List Nat) : (ints L).length = L.length := by simp [ints]
theorem rd_ints (L : List Nat) {i m : Nat} (h : L[i]? = some m) : rd (ints L) (i : Int) = (m : Int) := by
  simp [rd, ints, h]
theorem wrap_small (n : Nat) (h : n < 4294967296) : wrap64 (n : Int) = n := by unfold wrap64; omega
theorem place_l0 (T : Int) (n : Nat) (L : List Nat) (hup : L.Pairwise (· < ·)) (hL : L.length ≤ 65536) : ∀ (k i : Nat), i ≤ L.length → L.length - i < k → reliquaryref17_Set_place.l0 k n i T (ints L) = some (((i + pos n (L.drop i) : Nat) : Int), decide (n ∈ L.drop i))
  | 0, i, _, h => by omega
  | k + 1, i, hi, hk => by
    unfold reliquaryref17_Set_place.l0
    rw [length_ints]
    by_cases hlt : i < L.length
    · rw [if_pos (by omega), if_pos (by omega)]
      obtain ⟨m, hm⟩ : ∃ m, L[i]? = some m := ⟨_, List.getElem?_eq_getElem hlt⟩
      have hd : L.drop i = m :: L.drop (i + 1) := by
        rw [List.drop_eq_getElem_cons hlt]
        congr 1
        rw [List.getElem?_eq_getElem hlt] at hm
        exact Option.some.inj hm
      have hp := List.pairwise_cons.1 (hd ▸ List.Pairwise.sublist (List.drop_sublist i L) hup : (m :: L.drop (i + 1)).Pairwise (· < ·))
      rw [rd_ints L hm, hd]
      by_cases hmn : m < n
      · have hw : wrap64 ((i : Int) + 1) = ((i + 1 : Nat) : Int) := by unfold wrap64; omega
        rw [if_pos (by omega), hw, place_l0 T n L hup hL k (i + 1) (by omega) (by omega)]
        have e1 : pos n (m :: L.drop (i + 1)) = pos n (L.drop (i + 1)) + 1 := by
          conv => lhs; unfold pos
          rw [if_pos hmn]
        have e2 : decide (n ∈ m :: L.drop (i + 1)) = decide (n ∈ L.drop (i + 1)) := decide_eq_decide.2 (by
          rw [List.mem_cons]
          exact ⟨fun h => h.elim (fun e => by omega) id, .inr⟩)
        rw [e1, e2]
        congr 3
        omega
      · have e1 : pos n (m :: L.drop (i + 1)) = 0 := by
          unfold pos
          rw [if_neg hmn]
        have e2 : decide (n ∈ m :: L.drop (i + 1)) = ((m : Int) == (n : Int)) := by
          by_cases he : m = n
          · subst he
            simp
          · have h1 : n ∉ m :: L.drop (i + 1) := fun h => by
              rcases List.mem_cons.1 h with e | e
              · exact he e.symm
              · have := hp.1 n e; omega
            rw [decide_eq_false h1]
            exact (beq_eq_false_iff_ne.2 (by omega)).symm
        rw [if_neg (by omega), e1, e2]
        simp
    · have hd : L.drop i = [] := List.drop_eq_nil_of_le (by omega)
      rw [if_neg (by omega), hd]
      simp [pos]
theorem place_f (T : Int) (n : Nat) (L : List Nat) (hup : L.Pairwise (· < ·)) (hL : L.length ≤ 65536) (k : Nat) (hk : L.length < k) : reliquaryref17_Set_place.f k T (ints L) n = some (((pos n L : Nat) : Int), decide (n ∈ L)) := by
  unfold reliquaryref17_Set_place.f
  have := place_l0 T n L hup hL k 0 (Nat.zero_le _) (by omega)
  simpa using this
theorem has_f (T : Int) (n : Nat) (L : List Nat) (hup : L.Pairwise (· < ·)) (hL : L.length ≤ 65536) (k : Nat) (hk : L.length < k) : reliquaryref17_Set_Has.f k T (ints L) n = some (decide (n ∈ L)) := by
  unfold reliquaryref17_Set_Has.f
  rw [place_f T n L hup hL k hk]
  rfl
theorem mark_f (T n : Nat) (hn : n < 4294967296) (L : List Nat) (hup : L.Pairwise (· < ·)) (hL : L.length ≤ 65536) (k : Nat) (hk : L.length < k) :
    reliquaryref17_Set_Mark.f k T (ints L) n = some ((T : Int), ints (markOf T L n), markErr T L n) := by
  unfold reliquaryref17_Set_Mark.f
  have hq : 200000 ≤ (35184372088832 : Nat) := by decide
  generalize (35184372088832 : Nat) = q at hq ⊢
  rw [place_f T n L hup hL k hk, Option.bind_some, wrap_small n hn]
  unfold markOf markErr
  by_cases hT : T ≤ n
  · rw [if_pos (by omega), if_pos hT, if_pos hT]
  · rw [if_neg (by omega), if_neg hT, if_neg hT]
    by_cases hm : n ∈ L
    · rw [if_pos (decide_eq_true hm), if_pos hm, if_pos hm]
    · have hp := pos_le n L
      rw [if_neg (by simp [hm]), if_neg hm, if_neg hm, if_pos (by omega), length_ints, if_pos (by omega)]
      have hlt : ((ints L).take (pos n L)).length ≤ L.length := by simp [ints]; omega
      have hld : ((ints L).drop (pos n L)).length ≤ L.length := by simp [ints]
      rw [Int.toNat_natCast]
      rw [Option.bind_some, if_pos (by simp only [List.length_nil]; omega), Option.bind_some, List.nil_append, if_pos (by omega), Option.bind_some, Option.bind_some]
      rw [if_pos (by simp only [List.length_append, List.length_cons, List.length_nil]; omega)]
      rw [ins_pos n L hm]
      congr 3
      simp [ints]
theorem clear_f (T n : Nat) (hn : n < 4294967296) (L : List Nat) (hup : L.Pairwise (· < ·)) (hL : L.length ≤ 65536) (k : Nat) (hk : L.length < k) :
    reliquaryref17_Set_Clear.f k T (ints L) n = some ((T : Int), ints (clearOf T L n), clearErr T L n) := by
  unfold reliquaryref17_Set_Clear.f
  have hq : 200000 ≤ (35184372088832 : Nat) := by decide
  generalize (35184372088832 : Nat) = q at hq ⊢
  rw [place_f T n L hup hL k hk, Option.bind_some, wrap_small n hn]
  unfold clearOf clearErr
  by_cases hT : T ≤ n
  · rw [if_pos (by omega), if_pos hT, if_pos hT]
  · rw [if_neg (by omega), if_neg hT, if_neg hT]
    by_cases hm : n ∈ L
    · obtain ⟨ho, hp⟩ := out_pos n L hup hm
      have hw : wrap64 (((pos n L : Nat) : Int) + 1) = ((pos n L + 1 : Nat) : Int) := by unfold wrap64; omega
      rw [if_pos (decide_eq_true hm), if_pos hm, if_pos (by omega), length_ints, if_pos (by omega), hw]
      have hlt : ((ints L).take (pos n L)).length ≤ L.length := by simp [ints]; omega
      have hld : ((ints L).drop (pos n L + 1)).length ≤ L.length := by simp [ints]
      rw [Int.toNat_natCast, Int.toNat_natCast]
      rw [Option.bind_some, if_pos (by simp only [List.length_nil]; omega), Option.bind_some, List.nil_append, if_pos (by omega), if_pos (by omega), Option.bind_some, if_pos (by omega), ho]
      congr 3
      simp [ints]
    · rw [if_neg (by simp [hm]), if_neg hm]
      have hf : L.filter (· ≠ n) = L := List.filter_eq_self.2 (fun a ha => decide_eq_true (fun e => hm (e ▸ ha)))
      rw [hf]
theorem new_f (t : Int) : reliquaryref17_New.f t = some ((totOf t : Int), []) := by
  unfold reliquaryref17_New.f
  congr 2
  unfold mx mn totOf
  (repeat' split) <;> omega
end Go.Proofs.YtkpdmbcefjjfgaaDoor.Rp
