/- Slices of numbers that came in; a row of one's own that List hands out. -/
import Derived.Test.YtkpdmbcefjjfgaaDoorSf
import Derived.OpenShut
namespace Go.Proofs.YtkpdmbcefjjfgaaDoor.Si
open Go.RowKit Go.Proofs.YtkpdmbcefjjfgaaDoorW.PrintWords Go.Proofs.YtkpdmbcefjjfgaaDoorW.PrintLast Go.Proofs.YtkpdmbcefjjfgaaDoorW.PrintMore Wd Sa Sb Sc Sd Se Sf

/-- A slice that came in: its elements zs. -/
def Row (k : IntKind) (w : World) (A : Option Addr) (zs : List Nat) : Prop :=
  ∀ (j x : Nat), zs[j]? = some x → ∃ b off, A = some ⟨b, off, none⟩ ∧ b < w.heap.size ∧ w.cell? ⟨b, off + j, none⟩ = some (.int k x)
theorem Row.nil (k : IntKind) (w : World) (A : Option Addr) : Row k w A [] := fun j x h => by simp at h
theorem Row.below {k : IntKind} {w w' : World} {A : Option Addr} {zs : List Nat} {B : Nat} (h : Row k w A zs) (hb : Below B w w') (hB : w.heap.size ≤ B) : Row k w' A zs := fun j x hj => by
  obtain ⟨b, off, rfl, hlt, hc⟩ := h j x hj
  exact ⟨b, off, rfl, Nat.lt_of_lt_of_le hlt hb.size, (hb.cell (p := ⟨b, off + j, none⟩) (Nat.lt_of_lt_of_le hlt hB)).trans hc⟩
theorem block_lt {w : World} {b off : Nat} {v : Value} (h : w.cell? ⟨b, off, none⟩ = some v) : b < w.heap.size := by
  rcases Nat.lt_or_ge b w.heap.size with hlt | hge
  · exact hlt
  · simp [World.cell?, Array.getElem?_eq_none hge] at h
theorem nats_of : ∀ (zs : List Int), (∀ z, z ∈ zs → 0 ≤ z) → ∃ ns : List Nat, zs = ns.map (fun n : Nat => (n : Int))
  | [], _ => ⟨[], rfl⟩
  | z :: r, h => by
    obtain ⟨ns, hns⟩ := nats_of r (fun x hx => h x (by simp [hx]))
    obtain ⟨n, hn⟩ := Int.eq_ofNat_of_zero_le (h z (by simp))
    exact ⟨n :: ns, by simp [hns, hn]⟩
theorem row_of {k : IntKind} {w : World} {x : Addr} {len cap : Nat} {zs : List Int} (hk : k.min = 0) (hl : len ≤ cap) (hz : zs.length = cap) (hc : ∀ i, i < zs.length → w.cell? (x.add i) = some (.int k (zs.getD i 0))) (hw : ∀ n ∈ zs, (Lit.int k n).wf = true) :
    ∃ ns : List Nat, ns.length = len ∧ (∀ n, n ∈ ns → (n : Int) ≤ k.max) ∧ Row k w (some x) ns := by
  have hb : ∀ z, z ∈ zs → 0 ≤ z ∧ z ≤ k.max := fun z hz => by
    have h := hw z hz
    simp only [Lit.wf, Bool.and_eq_true, decide_eq_true_eq] at h
    omega
  obtain ⟨ns, rfl⟩ := nats_of zs (fun z hz => (hb z hz).1)
  refine ⟨ns.take len, by simp at hz ⊢; omega, fun n hn => (hb n (List.mem_map_of_mem (List.mem_of_mem_take hn))).2, ?_⟩
  intro j y hj
  rw [List.getElem?_take] at hj
  split at hj
  · rename_i hjl
    have hjz : j < (ns.map fun n : Nat => (n : Int)).length := by omega
    obtain ⟨b, off, rfl, hcell⟩ := Go.ints_at hc (by omega)
    have h := hcell j hjz
    have e : (ns.map fun n : Nat => (n : Int)).getD j 0 = (y : Int) := by simp [List.getD_eq_getElem?_getD, hj]
    rw [e] at h
    exact ⟨b, off, rfl, block_lt h, h⟩
  · cases hj
/-- What List hands out. -/
def Own (w : World) (base : Nat) (v : Value) (L : List Nat) : Prop :=
  (v = .slice none 0 0 ∧ L = []) ∨ ∃ g cap cur, v = .slice (some ⟨g, 0, none⟩) L.length cap ∧ base ≤ g ∧ L.length ≤ cap ∧ w.heap[g]? = some (.cells cur 33 (0, 0)) ∧ ∀ j x : Nat, L[j]? = some x → cur[j]? = some (.int .u32 x)
theorem own_list {w : World} {base : Nat} {ok : Nat → Prop} {v : Value} {L : List Nat} (h : Kd.R (Kd.int .u32) 33 w base ok v (ints L)) : Own w base v L := by
  have ho := Kd.own_of_R (enc := Value.int .u32) (h1 := fun _ => rfl) h
  obtain ⟨_, ⟨rfl, h0⟩ | ⟨g, cap, cur, rfl, hg, hh, hn, _, _, hcur⟩⟩ := ho
  · left
    refine ⟨rfl, ?_⟩
    cases L with
    | nil => rfl
    | cons a r => simp [ints] at h0
  · right
    have hl : (ints L).length = L.length := by simp [ints]
    rw [hl] at hn hcur ⊢
    refine ⟨g, cap, cur, rfl, hg, hn, hh, ?_⟩
    intro j x hj
    have hjl : j < L.length := by
      rcases Nat.lt_or_ge j L.length with h | h
      · exact h
      · rw [List.getElem?_eq_none h] at hj; cases hj
    have h2 := congrArg (·[j]?) hcur
    simp only [Nat.mul_one, List.getElem?_take, hjl, if_true, Array.getElem?_toList] at h2
    rw [h2]
    simp [encs, ints, hj]
theorem Own.slice {w : World} {base : Nat} {v : Value} {L : List Nat} (h : Own w base v L) : ∃ A cap, v = .slice A L.length cap ∧ L.length ≤ cap := by
  rcases h with ⟨rfl, rfl⟩ | ⟨g, cap, cur, rfl, _, hc, _⟩
  · exact ⟨none, 0, rfl, Nat.le_refl _⟩
  · exact ⟨_, cap, rfl, hc⟩
theorem Own.cell {w : World} {base n cap : Nat} {A : Option Addr} {L : List Nat} (h : Own w base (.slice A n cap) L) {j x : Nat} (hj : L[j]? = some x) : ∃ g, A = some ⟨g, 0, none⟩ ∧ w.cell? ⟨g, j, none⟩ = some (.int .u32 x) := by
  rcases h with ⟨_, rfl⟩ | ⟨g, cap, cur, hv, _, _, hh, hc⟩
  · simp at hj
  · injection hv with h1 h2 h3
    exact ⟨g, h1, (blk_cell hh j).trans (hc j x hj)⟩
theorem nat_of {k : IntKind} {a : Int} (w : (Lit.int k a).wf = true) (hk : k.min = 0) : ∃ n : Nat, a = n ∧ (n : Int) ≤ k.max := by
  have h := w
  simp only [Lit.wf, Bool.and_eq_true, decide_eq_true_eq] at h
  obtain ⟨n, rfl⟩ := Int.eq_ofNat_of_zero_le (show 0 ≤ a by omega)
  exact ⟨n, rfl, h.2⟩
end Go.Proofs.YtkpdmbcefjjfgaaDoor.Si
