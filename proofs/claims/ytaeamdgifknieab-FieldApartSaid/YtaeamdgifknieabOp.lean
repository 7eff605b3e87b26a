/- An argument that is an array of bytes, opened: its cells are a list of numbers below 256. Conditions: what the argument's reading gives. -/
import Derived.Test.YtaeamdgifknieabRows
import Derived.Test.YtaeamdgifknieabTw
import Derived.ProofKit
import Derived.OpenShut
namespace Go.Proofs.Ytaeamdgifknieab.Op
open Go.ChangeShapes Go.WideShapes Go.ChangeAt Go.RowKit Ar Tw

def num : Value → Nat
  | .int _ z => z.toNat
  | _ => 0
theorem open_bytes {H : Type} {enc : TypeId × Value → H} {W : World} {base : Nat} {sp : Nat → Bool} {held : Bool} {r : Reach} {b0 : Nat} {t : TypeId} {n : Nat} {v : Value} {d : DataW H} {p : List MemPlace}
    (ht : Try.prog.underlying t = some (.array n 5)) (hn : Try.prog.cellsOf t = n) (h5 : Try.prog.cellsOf 5 = 1) (hv : Value.okWide Try.prog W r b0 t v) (h : DataW.Trod enc Try.prog W base sp held t v d p) :
    ∃ c : List Nat, v = .agg (cells c) ∧ c.length = n ∧ ∀ x ∈ c, x < 256 := by
  simp only [Value.okWide, ht] at hv
  obtain ⟨cs, rfl, hsz, _⟩ := hv
  rw [hn] at hsz
  obtain ⟨fuel, hf⟩ := h
  obtain ⟨xs, m, _, _, _, hlen, hg⟩ := DataW.trod_array ht hf
  have hc : ∀ i, i < n → ∃ z : Int, cs.toList[i]? = some (.int .u8 z) ∧ 0 ≤ z ∧ z < 256 := by
    intro i hi
    have h1 := hg i hi
    rw [h5, Nat.mul_one] at h1
    have hi' : i < cs.toList.length := by simpa using (by omega : i < cs.size)
    have e1 : ((Value.agg cs).cells.toList.drop i).take 1 = [cs.toList[i]] := by
      simp only [Value.cells]
      rw [List.drop_eq_getElem_cons hi']
      rfl
    rw [e1, List.getElem?_eq_getElem (by omega : i < xs.length)] at h1
    obtain ⟨z, e0, _, wz⟩ := DataW.trod_int Try.underlying5 h1
    have hx : 0 ≤ z ∧ z ≤ 255 := by simpa [Lit.wf, IntKind.min, IntKind.max, IntKind.signed, IntKind.bits] using wz
    refine ⟨z, ?_, hx.1, by omega⟩
    rw [List.getElem?_eq_getElem hi']
    injection e0 with e0
    rw [e0]
  have hl : cs.toList.length = n := by simpa using hsz
  refine ⟨cs.toList.map num, ?_, by rw [List.length_map]; exact hl, fun x hx => ?_⟩
  · congr 1
    apply Array.ext'
    unfold cells
    rw [List.map_map]
    refine List.ext_getElem? fun i => ?_
    by_cases hi : i < n
    · obtain ⟨z, hz, h0, _⟩ := hc i hi
      rw [hz]
      simp only [List.getElem?_map, hz, Option.map_some, Function.comp, num]
      rw [Int.toNat_of_nonneg h0]
    · rw [List.getElem?_eq_none (by omega), List.getElem?_eq_none (by rw [List.length_map]; omega)]
  · obtain ⟨y, hy, rfl⟩ := List.mem_map.1 hx
    obtain ⟨i, hi, rfl⟩ := List.mem_iff_getElem.1 hy
    obtain ⟨z, hz, h0, h1⟩ := hc i (by omega)
    rw [List.getElem?_eq_getElem hi] at hz
    injection hz with hz
    rw [hz]
    simp only [num]
    omega
theorem cells23 : Try.prog.cellsOf 23 = 16 := by kernel_rfl
theorem cells22 : Try.prog.cellsOf 22 = 2 := by kernel_rfl
theorem cells5 : Try.prog.cellsOf 5 = 1 := by kernel_rfl
end Go.Proofs.Ytaeamdgifknieab.Op
