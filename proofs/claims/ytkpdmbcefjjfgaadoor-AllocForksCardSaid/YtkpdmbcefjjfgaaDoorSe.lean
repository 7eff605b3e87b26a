import Derived.Test.YtkpdmbcefjjfgaaDoorSb
import Derived.Laws.CopyOwn
import Derived.Deep.RegionWith
namespace Go.Proofs.YtkpdmbcefjjfgaaDoor.Se
open Go.RowKit Go.Proofs.YtkpdmbcefjjfgaaDoorW.PrintWords Go.Proofs.YtkpdmbcefjjfgaaDoorW.PrintLast Go.Proofs.YtkpdmbcefjjfgaaDoorW.PrintMore Wd Sa Sb

theorem below_of {B : Nat} {a c a' c' : World} (h : Below B a c) (h1 : a'.os = a.os ∧ a'.tape = a.tape ∧ a'.output = a.output ∧ a'.heap = a.heap) (h2 : c'.os = c.os ∧ c'.tape = c.tape ∧ c'.output = c.output ∧ c'.heap = c.heap) : Below B a' c' :=
  ⟨by rw [h1.1, h2.1]; exact h.os, by rw [h1.2.1, h2.2.1]; exact h.tape, by rw [h1.2.2.1, h2.2.2.1]; exact h.output, by rw [h1.2.2.2, h2.2.2.2]; exact h.size, by rw [h1.2.2.2, h2.2.2.2]; exact h.block⟩
theorem fork_nil {w : World} : Calls Tryd.prog 13 #[.pointer none] w fun e w' => e = .returned (.pointer none) ∧ w = w' := by
  go_enter Tryd.func13, Tryd.ntmps13
  go_wp2_with fail
  go_ret
  exact ⟨rfl, rfl⟩
set_option maxHeartbeats 1000000 in
theorem fork_any {w : World} {sb wb T : Nat} {L : List Nat} (h : SetAt w sb wb T L) :
    Calls Tryd.prog 13 #[.pointer (some ⟨sb, 0, none⟩)] w fun e w' => ∃ s2 w2, e = .returned (.pointer (some ⟨s2, 0, none⟩)) ∧ SetAt w' s2 w2 T L ∧ Below w.heap.size w w' ∧ w.heap.size ≤ s2 ∧ w.heap.size ≤ w2 := by
  obtain ⟨ws, hok, hs, hw⟩ := h
  have h0 : w.cell? ⟨sb, 0, none⟩ = some (.int .i64 T) := (blk_cell hs 0).trans rfl
  have h1 : w.cell? ⟨sb, 1, none⟩ = some (.int .i64 L.length) := (blk_cell hs 1).trans rfl
  have h2 : w.cell? ⟨sb, 2, none⟩ = some (.slice (some ⟨wb, 0, none⟩) ws.length ws.length) := (blk_cell hs 2).trans rfl
  have hsb : sb < w.heap.size := blk_lt hs
  have hws : ws.length ≤ 1024 := by have := hok.len; have := hok.big; omega
  have hmk := makes ws.length hws
  have hsz58 : (Tryd.prog.info? 58).map (·.size) = some 1 := by
    have := S0.info58
    cases h : Tryd.prog.info? 58 with
    | none => rw [h] at this; cases this
    | some i => rw [h] at this; simp at this; simp [this.2.1]
  have HSZ := Lib.hid hsz58
  have HW := Lib.hid (show ∀ j v, (ws.map (fun x : Nat => Value.int .u64 x))[j]? = some v → w.cell? ⟨wb, j, none⟩ = some v from fun j v hv => by
    rw [blk_cell hw j]
    simpa using hv)
  have hwb : wb < w.heap.size := blk_lt hw
  have HO := Lib.hid hok
  clear hs hw hok hsz58
  go_enter Tryd.func13, Tryd.ntmps13
  go_wp2_with (
    (with_reducible refine wpList_copy_splice rfl (.tmp 12) (.tmp 16) 51 51 rfl 58 Tryd.underlying51 HSZ.out (some ⟨w.heap.size, 0, none⟩) (some ⟨wb, 0, none⟩) ws.length ws.length ws.length ws.length ?cd ?cs w.heap.size 0 (List.replicate ws.length (.int .u64 0)) 58 ?cg (ws.map fun x : Nat => Value.int .u64 x) ?cn ?cp ?cf ?c1 w.heap.size w ?cb (Nat.le_refl _) ?_)
    (case cd => rfl)
    (case cs => rfl)
    (case cg => simpa using blk_new w (.cells (List.replicate ws.length (Value.int .u64 0)).toArray 58))
    (case cn => simp)
    (case cp => exact fun _ => ⟨rfl, ⟨wb, 0, none⟩, rfl, fun j v hv => by
      have h3 : (⟨wb, 0, none⟩ : Addr).add j = ⟨wb, j, none⟩ := by unfold Addr.add; split <;> simp_all
      rw [h3, World.cell?_alloc_lt w _ ⟨wb, j, none⟩ hwb]
      exact HW.out j v hv⟩)
    (case cf => simp)
    (case c1 => intro v hv; obtain ⟨x, _, rfl⟩ := List.mem_map.1 hv; rfl)
    (case cb => exact below_alloc (Below.refl _ _) _)
    intro w1 hg1 hb1
    have g0 := (hb1.cell (p := ⟨sb, 0, none⟩) hsb).trans h0
    have g1 := (hb1.cell (p := ⟨sb, 1, none⟩) hsb).trans h1
    have hsp : splice (List.replicate ws.length (Value.int .u64 0)) 0 (ws.map fun x : Nat => Value.int .u64 x) = ws.map fun x : Nat => Value.int .u64 x := by simp [splice]
    have HG1 := Lib.hid (show w1.heap[w.heap.size]? = some (.cells (ws.map fun x : Nat => Value.int .u64 x).toArray 58 (0, 0)) from hsp ▸ hg1)
    have HB1 := Lib.hid hb1
    clear hb1 h0 h1 h2 hsp hg1)
  go_region
  all_goals go_wp2_with fail
  all_goals go_ret
  all_goals refine ⟨w1.heap.size, w.heap.size, rfl, ⟨ws, HO.out, blk_new w1 _, blk_alloc HG1.out _⟩, ?_, HB1.out.size, Nat.le_refl _⟩
  all_goals exact below_of (below_alloc HB1.out _) ⟨rfl, rfl, rfl, rfl⟩ ⟨rfl, rfl, rfl, rfl⟩
end Go.Proofs.YtkpdmbcefjjfgaaDoor.Se
