import Derived.Test.YtkpdmbcefjjfgaaDoorSa
namespace Go.Proofs.YtkpdmbcefjjfgaaDoor.Sb
open Go.RowKit Go.Proofs.YtkpdmbcefjjfgaaDoorW.PrintWords Go.Proofs.YtkpdmbcefjjfgaaDoorW.PrintLast Go.Proofs.YtkpdmbcefjjfgaaDoorW.PrintMore Wd Sa
attribute [local go_sem] max2_int min2_int max_two min_two max_three min_three max_four min_four
theorem run_make_rowN {P : Program} (t e : TypeId) (i : TypeInfo) (z : Value) (ht : P.underlying t = some (.slice e)) (hi : P.info? e = some i) (hz : i.zero = some z)
    (kl kc : IntKind) (n c : Nat) (hnc : n ≤ c) (hbytes : i.bytes * c ≤ 281474976710656) (h63 : c ≤ 9223372036854775807) (w : World) :
    (Instr.makeSlice t (.int kl (n : Int)) (.int kc (c : Int))).run P w = .ok (.slice (some ⟨w.heap.size, 0, none⟩) n c) (w.alloc (.cells (madeCells z.cells (c * i.size)) e)) := by
  have hb : (i.bytes : Int) * (c : Int) ≤ 281474976710656 := by
    have h : ((i.bytes * c : Nat) : Int) ≤ 281474976710656 := by omega
    rwa [Int.natCast_mul] at h
  have hr := run_make (P := P) w t e i z ht hi hz kl kc n c (by omega) (by omega) hb (by omega)
  simp only [Int.toNat_natCast] at hr
  exact hr
theorem makes (n : Nat) (hn : n ≤ 1024) (w : World) : (Instr.makeSlice 51 (.int .i64 (n : Int)) (.int .i64 (n : Int))).run Tryd.prog w = .ok (.slice (some ⟨w.heap.size, 0, none⟩) n n) (w.alloc (.cells (List.replicate n (Value.int .u64 0)).toArray 58)) := by
  have hi : ∃ i, Tryd.prog.info? 58 = some i ∧ (i.zero, i.size, i.bytes) = (some (.int .u64 0), 1, 8) := by
    have := S0.info58
    cases h : Tryd.prog.info? 58 with
    | none => rw [h] at this; cases this
    | some i => rw [h] at this; exact ⟨i, rfl, by simpa using this⟩
  obtain ⟨i, hi, he⟩ := hi
  simp only [Prod.mk.injEq] at he
  obtain ⟨hz, hs, hb⟩ := he
  have := run_make_rowN (P := Tryd.prog) 51 58 i (.int .u64 0) Tryd.underlying51 hi hz .i64 .i64 n n (Nat.le_refl _) (by rw [hb]; omega) (by omega) w
  rw [this, hs]
  congr 3
  rw [Nat.mul_one]
  apply Array.ext
  · simp [madeCells]
  · intro j h1 h2
    simp [madeCells, Value.cells, Nat.mod_one]
def totOf (t : Int) : Nat := if t ≤ 0 then 0 else if 65536 ≤ t then 65536 else t.toNat
theorem new_any (t : Int) (w : World) : Calls Tryd.prog 10 #[.int .i64 t] w fun e w' => ∃ sb wb, e = .returned (.pointer (some ⟨sb, 0, none⟩)) ∧ SetAt w' sb wb (totOf t) [] ∧ Below w.heap.size w w' ∧ w.heap.size ≤ sb ∧ w.heap.size ≤ wb := by
  obtain ⟨n, hn⟩ : ∃ n, totOf t = n := ⟨_, rfl⟩
  rw [hn]
  obtain ⟨a, ha⟩ : ∃ a : Int, (if 65536 < t then 65536 else t) = a := ⟨_, rfl⟩
  have h2 : (if 0 < a then a else 0) = (n : Int) := by
    rw [← ha, ← hn]
    unfold totOf
    (repeat' split) <;> omega
  have hb : n ≤ 65536 := by
    rw [← hn]
    unfold totOf
    (repeat' split) <;> omega
  have hmk : ∀ w : World, (Instr.makeSlice 51 (.int .i64 (((n : Int) + 64 - 1) / 64)) (.int .i64 (((n : Int) + 64 - 1) / 64))).run Tryd.prog w = .ok (.slice (some ⟨w.heap.size, 0, none⟩) ((n + 63) / 64) ((n + 63) / 64)) (w.alloc (.cells (List.replicate ((n + 63) / 64) (Value.int .u64 0)).toArray 58)) := fun w => by
    have e : ((n : Int) + 64 - 1) / 64 = (((n + 63) / 64 : Nat) : Int) := by omega
    rw [e]
    exact makes _ (by omega) w
  clear hn
  go_enter Tryd.func10, Tryd.ntmps10
  go_wp2_with fail
  go_ret
  refine ⟨w.heap.size + 1, w.heap.size, rfl, ⟨List.replicate ((n + 63) / 64) 0, Ok.new hb, ?_, ?_⟩, ?_, Nat.le_succ _, Nat.le_refl _⟩
  · have := heap_alloc_new (w.alloc (.cells (Array.replicate ((n + 63) / 64) (Value.int .u64 0)) 58)) (.cells #[.int .i64 n, .int .i64 0, .slice (some ⟨w.heap.size, 0, none⟩) ((n + 63) / 64) ((n + 63) / 64)] 53)
    simpa using this
  · have := blk_alloc (heap_alloc_new w (.cells (Array.replicate ((n + 63) / 64) (Value.int .u64 0)) 58)) (.cells #[.int .i64 n, .int .i64 0, .slice (some ⟨w.heap.size, 0, none⟩) ((n + 63) / 64) ((n + 63) / 64)] 53)
    simpa using this
  · exact below_alloc (below_alloc (Below.refl _ _) _) _
end Go.Proofs.YtkpdmbcefjjfgaaDoor.Sb
