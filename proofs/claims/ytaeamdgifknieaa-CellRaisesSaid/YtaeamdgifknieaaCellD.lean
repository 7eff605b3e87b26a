/- The reference's Raise, by contract. Conditions: the value's and the count's bounds. -/
import Derived.Test.YtaeamdgifknieaaCellB
import Derived.Deep.DeepFit
namespace Go.Proofs.Ytaeamdgifknieaa.CellD
open Go.RowKit CellA CellB

set_option maxHeartbeats 1000000 in
theorem ref_top (v r to : Int) (w : World) (hv : v = 18446744073709551615) :
    Calls Try.prog 17 #[.agg #[.int .u64 v, .int .i64 r], .int .u64 to] w fun e w' => e = .returned (.tuple #[.agg #[.int .u64 v, .int .i64 r], .int .i64 42]) ∧ Below w.heap.size w w' := by
  have ht : (v == 18446744073709551615) = true := beq_iff_eq.2 hv
  clear hv
  go_enter Try.func17, Try.ntmps17
  go_wp2
  refine bodyPost_ret (v := .tuple #[.agg #[.int .u64 v, .int .i64 r], .int .i64 42]) (by simp [results, Try.results17, go_sem]) rfl ⟨rfl, ?_⟩
  exact ((Below.refl _ _).alloc (Nat.le_refl _) _).alloc (by simp) _
set_option maxHeartbeats 1000000 in
theorem ref_not (v r to : Int) (w : World) (h0 : 0 ≤ v) (hv : v < 18446744073709551615) (t0 : 0 ≤ to) (t1 : to ≤ 18446744073709551615) (hne : (to != v + 1) = true) :
    Calls Try.prog 17 #[.agg #[.int .u64 v, .int .i64 r], .int .u64 to] w fun e w' => e = .returned (.tuple #[.agg #[.int .u64 v, .int .i64 r], .int .i64 2]) ∧ Below w.heap.size w w' := by
  have ht : (v == 18446744073709551615) = false := beq_eq_false_iff_ne.2 (by omega)
  have hn : to ≠ v + 1 := bne_iff_ne.1 hne
  have hd : (to - 1 != v) = true := bne_iff_ne.2 (by omega)
  by_cases hz : to = 0
  · subst hz
    clear hn hd hne
    go_enter Try.func17, Try.ntmps17
    go_wp2
    refine bodyPost_ret (v := .tuple #[.agg #[.int .u64 v, .int .i64 r], .int .i64 2]) (by simp [results, Try.results17, go_sem]) rfl ⟨rfl, ?_⟩
    exact ((Below.refl _ _).alloc (Nat.le_refl _) _).alloc (by simp) _
  · have hzb : (to == 0) = false := beq_eq_false_iff_ne.2 hz
    have hlo : 1 ≤ to := by omega
    have hw : IntKind.u64.wrap (to - 1) = to - 1 := by
      simp [IntKind.wrap, IntKind.bits, IntKind.signed]
      omega
    clear hn hne hz
    go_enter Try.func17, Try.ntmps17
    go_wp2
    refine bodyPost_ret (v := .tuple #[.agg #[.int .u64 v, .int .i64 r], .int .i64 2]) (by simp [results, Try.results17, go_sem]) rfl ⟨rfl, ?_⟩
    exact ((Below.refl _ _).alloc (Nat.le_refl _) _).alloc (by simp) _
set_option maxHeartbeats 1000000 in
theorem ref_ok (v r : Int) (w : World) (h0 : 0 ≤ v) (hv : v < 18446744073709551615) (r0 : 0 ≤ r) (r1 : r < 9223372036854775807) :
    Calls Try.prog 17 #[.agg #[.int .u64 v, .int .i64 r], .int .u64 (v + 1)] w fun e w' => e = .returned (.tuple #[.agg #[.int .u64 (v + 1), .int .i64 (r + 1)], .int .i64 0]) ∧ Below w.heap.size w w' := by
  have ht : (v == 18446744073709551615) = false := beq_eq_false_iff_ne.2 (by omega)
  have hzb : (v + 1 == 0) = false := beq_eq_false_iff_ne.2 (by omega)
  have hw : IntKind.u64.wrap (v + 1 - 1) = v := by
    rw [show v + 1 - 1 = v by omega]
    simp [IntKind.wrap, IntKind.bits, IntKind.signed]
    omega
  go_enter Try.func17, Try.ntmps17
  go_wp2
  refine bodyPost_ret (v := .tuple #[.agg #[.int .u64 (v + 1), .int .i64 (r + 1)], .int .i64 0]) (by simp [results, Try.results17, go_sem]) rfl ⟨rfl, ?_⟩
  exact ((Below.refl _ _).alloc (Nat.le_refl _) _).alloc (by simp) _
/-- What a call of Raise makes of a value and a count, and what it answers. -/
def Step (v r to v' r' f : Int) : Prop :=
  (v = 18446744073709551615 ∧ v' = v ∧ r' = r ∧ f = 42) ∨ (v < 18446744073709551615 ∧ to ≠ v + 1 ∧ v' = v ∧ r' = r ∧ f = 2) ∨ (v < 18446744073709551615 ∧ to = v + 1 ∧ v' = v + 1 ∧ r' = r + 1 ∧ f = 0)
theorem step_some (v r to : Int) (hv : U64 v) : ∃ v' r' f, Step v r to v' r' f := by
  have h1 := hv.2
  by_cases h : v = 18446744073709551615
  · exact ⟨_, _, _, .inl ⟨h, rfl, rfl, rfl⟩⟩
  · by_cases h' : to = v + 1
    · exact ⟨_, _, _, .inr (.inr ⟨by omega, h', rfl, rfl, rfl⟩)⟩
    · exact ⟨_, _, _, .inr (.inl ⟨by omega, h', rfl, rfl, rfl⟩)⟩
theorem Step.bounds {v r to v' r' f : Int} (h : Step v r to v' r' f) (hv : U64 v) (hr : 0 ≤ r) : U64 v' ∧ 0 ≤ r' ∧ r' ≤ r + 1 := by
  have h0 := hv.1
  have h1 := hv.2
  unfold U64
  rcases h with ⟨_, rfl, rfl, rfl⟩ | ⟨_, _, rfl, rfl, rfl⟩ | ⟨h, _, rfl, rfl, rfl⟩ <;> refine ⟨⟨?_, ?_⟩, ?_, ?_⟩ <;> omega
theorem grown_self (w : World) (row : Option Nat) : w.grownBy w row := ⟨rfl, rfl, rfl, Nat.le_refl _, fun _ _ _ => rfl⟩
theorem grown_set {w : World} {b i : Nat} (u : Value) : w.grownBy (w.setCell ⟨b, i, none⟩ u) (some b) :=
  ⟨rfl, rfl, rfl, by simp [World.setCell], fun k _ hne => Below.heap_setCell w ⟨b, i, none⟩ u k (fun e => hne (by rw [e]))⟩
theorem grown_trans {a b c : World} {row : Option Nat} (h : a.grownBy b row) (k : b.grownBy c row) : a.grownBy c row :=
  ⟨k.os.trans h.os, k.tape.trans h.tape, k.output.trans h.output, Nat.le_trans h.size k.size, fun i hi hne => (k.block i (Nat.lt_of_lt_of_le hi h.size) hne).trans (h.block i hi hne)⟩
theorem raise_all {b : Nat} {v r to v' r' f : Int} {w : World} (hs : Step v r to v' r' f) (hv : U64 v) (r0 : 0 ≤ r) (r1 : r < 9223372036854775807) (h : Cell w b v r) :
    Calls Try.prog 15 #[.pointer (some ⟨b, 0, none⟩), .int .u64 to] w fun e w' => e = .returned (.int .i64 f) ∧ Cell w' b v' r' ∧ w.grownBy w' (some b) := by
  rcases hs with ⟨ht, rfl, rfl, rfl⟩ | ⟨ht, hne, rfl, rfl, rfl⟩ | ⟨ht, rfl, rfl, rfl, rfl⟩
  · exact (raise_top' to h ht).mono fun e w' ⟨he, hw⟩ => by subst hw; exact ⟨he, h, grown_self _ _⟩
  · exact (raise_not to h hv.1 ht (bne_iff_ne.2 hne)).mono fun e w' ⟨he, hw⟩ => by subst hw; exact ⟨he, h, grown_self _ _⟩
  · exact (raise_ok h hv.1 ht (by omega) r1).mono fun e w' ⟨he, hw⟩ => by subst hw; exact ⟨he, (h.set0 _).set1 _, grown_trans (grown_set _) (grown_set _)⟩
theorem ref_all {v r to v' r' f : Int} (hs : Step v r to v' r' f) (hv : U64 v) (ht : U64 to) (r0 : 0 ≤ r) (r1 : r < 9223372036854775807) (w : World) :
    Calls Try.prog 17 #[.agg #[.int .u64 v, .int .i64 r], .int .u64 to] w fun e w' => e = .returned (.tuple #[.agg #[.int .u64 v', .int .i64 r'], .int .i64 f]) ∧ Below w.heap.size w w' := by
  rcases hs with ⟨h, rfl, rfl, rfl⟩ | ⟨h, hne, rfl, rfl, rfl⟩ | ⟨h, rfl, rfl, rfl, rfl⟩
  · exact ref_top _ _ to w h
  · exact ref_not _ _ to w hv.1 h ht.1 ht.2 (bne_iff_ne.2 hne)
  · exact ref_ok _ _ w hv.1 h r0 r1
end Go.Proofs.Ytaeamdgifknieaa.CellD
