/- What the reference's Take tells, over a rising list of numbers. -/
import Derived.Test.YtkpdmbcefjjfgaaDoorRp
namespace Go.Proofs.YtkpdmbcefjjfgaaDoor.Rq
open Go.RowKit Go.Proofs.YtkpdmbcefjjfgaaDoorW.PrintWords Go.Proofs.YtkpdmbcefjjfgaaDoorW.PrintLast Go.Proofs.YtkpdmbcefjjfgaaDoorW.PrintMore Wd Sa Sb Sc Sd PAllocPlays Rp

theorem take_here {T : Nat} {L ws : List Nat} (h : Ok T L ws) {i : Nat} (hi : i < T) (hall : ∀ j, j < i → L[j]? = some j) (hn : L[i]? ≠ some i) :
    markOf T L i = takeOf T L ∧ markErr T L i = 0 ∧ takeNum T L = i ∧ takeErr T L = 0 := by
  have hmem : ∀ j, j < i → j ∈ L := fun j hj => List.mem_of_getElem? (hall j hj)
  have hnot : i ∉ L := by
    intro hm
    obtain ⟨p, hp, he⟩ := List.mem_iff_getElem.1 hm
    rcases Nat.lt_trichotomy p i with h1 | h1 | h1
    · have := hall p h1
      rw [List.getElem?_eq_getElem hp] at this
      have := Option.some.inj this
      omega
    · subst h1
      exact hn (by rw [List.getElem?_eq_getElem hp, he])
    · have hi2 : i < L.length := by omega
      have h2 := List.pairwise_iff_getElem.1 h.up i p hi2 hp h1
      -- L[i] < L[p] = i, though i values below stand before
      have h3 : L[i] < i := by omega
      have h4 := hall (L[i]) h3
      have hb : L[i] < L.length := by omega
      rw [List.getElem?_eq_getElem hb] at h4
      have h5 := Option.some.inj h4
      have h6 := List.pairwise_iff_getElem.1 h.up (L[i]) i hb hi2 h3
      omega
  have hlow : low 0 L = i := low_eq i L 0 h.up (fun _ _ => Nat.zero_le _) (Nat.zero_le _) hnot (fun m _ hm => hmem m hm)
  have hl : ¬ L.length = T := fun e => hnot (h.full e i hi)
  unfold markOf markErr takeOf takeNum takeErr
  have hTi : ¬ T ≤ i := by omega
  rw [if_neg hTi, if_neg hTi, if_neg hnot, if_neg hnot, if_neg hl, if_neg hl, if_neg hl, hlow]
  exact ⟨rfl, rfl, rfl, rfl⟩
theorem take_end {T : Nat} {L ws : List Nat} (h : Ok T L ws) (hall : ∀ j, j < T → L[j]? = some j) :
    takeOf T L = L ∧ takeNum T L = 0 ∧ takeErr T L = 21 := by
  have hl : L.length = T := by
    have h1 := h.length_le
    rcases Nat.lt_or_ge L.length T with h2 | h2
    · have := hall _ h2
      simp at this
    · omega
  unfold takeOf takeNum takeErr
  rw [if_pos hl, if_pos hl, if_pos hl]
  exact ⟨rfl, rfl, rfl⟩
theorem take_l0 {T : Nat} {L ws : List Nat} (h : Ok T L ws) : ∀ (k i : Nat), i ≤ T → (∀ j, j < i → L[j]? = some j) → T - i + L.length < k →
    reliquaryref17_Set_Take.l0 k i T (ints L) = some ((T : Int), ints (takeOf T L), ((takeNum T L : Nat) : Int), takeErr T L)
  | 0, _, _, _, hk => by omega
  | k + 1, i, hi, hall, hk => by
    have hbig := h.big
    have hlen := h.length_le
    unfold reliquaryref17_Set_Take.l0
    rw [length_ints]
    by_cases hlt : i < T
    · have hmod : (i : Int) % 4294967296 = (i : Int) := by omega
      have hmark := mark_f T i (by omega) L h.up (by omega) k (by omega)
      rw [if_pos (by omega), hmod]
      by_cases hil : L.length ≤ i
      · have hn : L[i]? ≠ some i := by rw [List.getElem?_eq_none hil]; exact fun e => by cases e
        obtain ⟨e1, e2, e3, e4⟩ := take_here h hlt hall hn
        rw [if_pos (by omega), hmark, Option.bind_some, e1, e3, e4]
      · obtain ⟨m, hm⟩ : ∃ m, L[i]? = some m := ⟨_, List.getElem?_eq_getElem (by omega)⟩
        rw [if_neg (by omega), if_pos (by omega), if_pos (by omega), rd_ints L hm]
        by_cases hmi : m = i
        · have hw : wrap64 ((i : Int) + 1) = ((i + 1 : Nat) : Int) := by unfold wrap64; omega
          rw [if_pos (by omega), hw]
          refine take_l0 h k (i + 1) (by omega) (fun j hj => ?_) (by omega)
          by_cases hji : j = i
          · rw [hji, hm, hmi]
          · exact hall j (by omega)
        · have hn : L[i]? ≠ some i := by rw [hm]; exact fun e => hmi (Option.some.inj e)
          obtain ⟨e1, e2, e3, e4⟩ := take_here h hlt hall hn
          rw [if_neg (by omega), hmark, Option.bind_some, e1, e3, e4]
    · obtain rfl : i = T := by omega
      obtain ⟨e1, e2, e3⟩ := take_end h hall
      rw [if_neg (by omega), e1, e2, e3]
      rfl
theorem take_f {T : Nat} {L ws : List Nat} (h : Ok T L ws) (k : Nat) (hk : T + L.length < k) :
    reliquaryref17_Set_Take.f k T (ints L) = some ((T : Int), ints (takeOf T L), ((takeNum T L : Nat) : Int), takeErr T L) := by
  unfold reliquaryref17_Set_Take.f
  have := take_l0 h k 0 (Nat.zero_le _) (fun j hj => by omega) (by omega)
  simpa using this
end Go.Proofs.YtkpdmbcefjjfgaaDoor.Rq
