/- A slice of calls that came in, opened. -/
import Derived.Test.YtkpdmbcefjjfgaaDoorPl
import Derived.Deep.SlicePairs
namespace Go.Proofs.YtkpdmbcefjjfgaaDoor.Ac
open Go.ChangeShapes Go.WideShapes Go.RowKit Pl

theorem acts_nil (w : World) (A : Option Addr) : Acts w A [] := fun j a h => by simp at h
theorem acts_of {w : World} {x : Addr} {len : Nat} (h : ∀ i, i < len → ∃ k n : Nat, k < 256 ∧ n < 4294967296 ∧ w.cell? (x.add (i * 2)) = some (.int .u8 (k : Int)) ∧ w.cell? (x.add (i * 2 + 1)) = some (.int .u32 (n : Int))) :
    ∃ l : List (Nat × Nat), l.length = len ∧ Acts w (some x) l := by
  have each : ∀ i, ∃ p : Nat × Nat, i < len → p.1 < 256 ∧ p.2 < 4294967296 ∧ w.cell? (x.add (i * 2)) = some (.int .u8 (p.1 : Int)) ∧ w.cell? (x.add (i * 2 + 1)) = some (.int .u32 (p.2 : Int)) := fun i => by
    by_cases hi : i < len
    · obtain ⟨k, n, h1⟩ := h i hi
      exact ⟨(k, n), fun _ => h1⟩
    · exact ⟨(0, 0), fun h => absurd h hi⟩
  obtain ⟨F, hF⟩ := Classical.axiomOfChoice each
  refine ⟨(List.range len).map F, by simp, ?_⟩
  intro j a ha
  have hj : j < len := by
    rcases Nat.lt_or_ge j len with h | h
    · exact h
    · rw [List.getElem?_eq_none (by simpa using h)] at ha; cases ha
  have he : F j = a := by
    rw [List.getElem?_map, List.getElem?_range hj] at ha
    exact Option.some.inj ha
  obtain ⟨h1, h2, h3, h4⟩ := hF j hj
  rw [he] at h1 h2 h3 h4
  obtain ⟨b, off, spot⟩ := x
  have hspot : spot = none := by
    have := World.cell?_spot (hF 0 (by omega)).2.2.1
    simpa [Addr.add] using this
  subst hspot
  rw [Go.WideShapes.add_plain] at h3 h4
  exact ⟨h1, h2, b, off, rfl, Si.block_lt h3, h3, by rw [Nat.add_assoc]; exact h4⟩
end Go.Proofs.YtkpdmbcefjjfgaaDoor.Ac
