/- CellRises' walk: any calls of Raise; the value never sinks and rises by one just where it is told. Conditions: what the arguments' readings give. -/
import Derived.Test.YtaeamdgifknieaaCellA
import Derived.LoopTactic
import Derived.OpenShut
namespace Go.Proofs.Ytaeamdgifknieaa.CellB
open Go.RowKit CellA

def U64 (v : Int) : Prop := 0 ≤ v ∧ v ≤ 18446744073709551615
theorem u64_of {v : Int} (h : (Lit.int .u64 v).wf = true) : U64 v := by
  have hx : 0 ≤ v ∧ v ≤ 18446744073709551615 := by simpa [Lit.wf, IntKind.min, IntKind.max, IntKind.signed, IntKind.bits] using h
  exact hx
/-- The slice's cells, where there are any. -/
def Nums (w : World) (A : Option Addr) (n : Nat) (zs : List Int) : Prop :=
  n ≤ zs.length ∧ ∀ k, k < n → ∃ b off x, A = some ⟨b, off, none⟩ ∧ b < w.heap.size ∧ zs[k]? = some x ∧ U64 x ∧ w.cell? ⟨b, off + k, none⟩ = some (.int .u64 x)
theorem block_lt {w : World} {b off : Nat} {v : Value} (h : w.cell? ⟨b, off, none⟩ = some v) : b < w.heap.size := by
  rcases Nat.lt_or_ge b w.heap.size with hlt | hge
  · exact hlt
  · simp [World.cell?, Array.getElem?_eq_none hge] at h
theorem nums_of {w : World} {x : Addr} {len cap : Nat} {zs : List Int} (hl : len ≤ cap) (hz : zs.length = cap) (hc : ∀ i, i < zs.length → w.cell? (x.add i) = some (.int .u64 (zs.getD i 0))) (hw : ∀ n ∈ zs, (Lit.int .u64 n).wf = true) :
    Nums w (some x) len zs := by
  refine ⟨by omega, fun k hk => ?_⟩
  obtain ⟨b, off, rfl, hcell⟩ := Go.ints_at hc (by omega)
  have hk' : k < zs.length := by omega
  have h := hcell k hk'
  have e : zs.getD k 0 = zs[k] := by simp [List.getD, hk']
  rw [e] at h
  exact ⟨b, off, zs[k], rfl, block_lt h, List.getElem?_eq_getElem hk', u64_of (hw _ (List.getElem_mem hk')), h⟩
theorem nums_nil (w : World) : Nums w none 0 [] := ⟨Nat.le_refl _, fun k hk => absurd hk (by omega)⟩

theorem raise_top' {b : Nat} {v r : Int} (to : Int) {w : World} (h : Cell w b v r) (hv : v = 18446744073709551615) : Calls Try.prog 15 #[.pointer (some ⟨b, 0, none⟩), .int .u64 to] w fun e w' => e = .returned (.int .i64 42) ∧ w = w' := by
  subst hv
  exact raise_top to h

set_option maxHeartbeats 1000000 in
theorem rises (n : Int) (A : Option Addr) (len cap : Nat) (zs : List Int) (w : World) (hn : U64 n) (hz : Nums w A len zs) (hlen : len ≤ maxLen) :
    Calls Try.prog 3 #[.int .u64 n, .slice A len cap] w fun e w' => e = .returned (.bool true) ∧ Below w.heap.size w w' := by
  unfold maxLen at hlen
  have HN := Lib.hid hn
  clear hn
  have HZ := Lib.hid hz
  clear hz
  go_enter Try.func3, Try.ntmps3
  go_wp2_with fail
  refine (new_any _ _).mono ?_
  rintro e w' ⟨rfl, rfl⟩
  go_wp2_with fail
  refine (value_any (Cell.laid w n 0)).mono ?_
  rintro e w' ⟨rfl, rfl⟩
  go_wp2_with fail
  go_loopw [6] (fun i wr => ∃ (k : Nat) (v r : Int), k ≤ len ∧ i = .int .i64 k ∧ U64 v ∧ 0 ≤ r ∧ r ≤ k ∧ Cell wr w.heap.size v r ∧ Below w.heap.size w wr) (fun i _ => len - (intOf i).toNat)
  case atStart => exact ⟨0, n, 0, Nat.zero_le _, rfl, HN.out, by omega, by omega, Cell.laid w n 0, (Below.refl _ _).alloc (Nat.le_refl _) _⟩
  case round =>
    obtain ⟨k, v, r, hk, rfl, hv, hr0, hr1, hc, hb⟩ := hrel
    have HC := Lib.hid hc
    have HB := Lib.hid hb
    have HV := Lib.hid hv
    clear hc hb hv
    by_cases hlt : k < len
    · obtain ⟨b, off, x, rfl, hbl, hx, hx64, hcell⟩ := HZ.out.2 k hlt
      have hcell' : wr.cell? ⟨b, off + k, none⟩ = some (.int .u64 x) := (HB.out.cell (p := ⟨b, off + k, none⟩) hbl).trans hcell
      have HX := Lib.hid hx64
      clear hx hx64 hcell
      go_wp2_with fail
      refine (value_any HC.out).mono ?_
      rintro e w' ⟨rfl, rfl⟩
      go_wp2_with fail
      by_cases htop : v = 18446744073709551615
      · have HT := Lib.hid htop
        clear htop
        refine (raise_top' x HC.out HT.out).mono ?_
        rintro e w' ⟨rfl, rfl⟩
        go_wp2_with fail
        refine (value_any HC.out).mono ?_
        rintro e w' ⟨rfl, rfl⟩
        go_wp2_with fail
        go_roundw
        case rel => exact ⟨k + 1, v, r, by omega, by go_num, HV.out, by omega, by omega, HC.out, HB.out⟩
        case measure => simp [intOf]; omega
      · have hV := HV.out
        have hlo : 0 ≤ v := hV.1
        have hhi : v < 18446744073709551615 := by have := hV.2; omega
        clear htop hV
        have HH := Lib.hid hhi
        clear hhi
        by_cases hto : x = v + 1
        · subst hto
          refine (raise_ok HC.out hlo HH.out (by omega) (by omega)).mono ?_
          rintro e w' ⟨rfl, rfl⟩
          have hc2 := Lib.hid ((HC.out.set0 (v + 1)).set1 (r + 1))
          have hb2 := Lib.hid ((HB.out.setCell (p := ⟨w.heap.size, 0, none⟩) (Nat.le_refl _) (.int .u64 (v + 1))).setCell (p := ⟨w.heap.size, 1, none⟩) (Nat.le_refl _) (.int .i64 (r + 1)))
          go_wp2_with fail
          refine (value_any hc2.out).mono ?_
          rintro e w' ⟨rfl, rfl⟩
          have h1 : decide (v + 1 < v) = false := decide_eq_false (by omega)
          have h2 : IntKind.u64.wrap (v + 1 - v) = 1 := by rw [show v + 1 - v = 1 by omega]; decide
          go_wp2_with fail
          go_roundw
          case rel => exact ⟨k + 1, v + 1, r + 1, by omega, by go_num, HX.out, by omega, by omega, hc2.out, hb2.out⟩
          case measure => simp [intOf]; omega
        · have hne : (x != v + 1) = true := bne_iff_ne.2 hto
          have HE := Lib.hid hne
          clear hne hto
          refine (raise_not x HC.out hlo HH.out HE.out).mono ?_
          rintro e w' ⟨rfl, rfl⟩
          go_wp2_with fail
          refine (value_any HC.out).mono ?_
          rintro e w' ⟨rfl, rfl⟩
          go_wp2_with fail
          go_roundw
          case rel => exact ⟨k + 1, v, r, by omega, by go_num, HV.out, by omega, by omega, HC.out, HB.out⟩
          case measure => simp [intOf]; omega
    · go_wp2_with fail
      refine (awake_any _).mono ?_
      rintro e w' ⟨rfl, hb'⟩
      go_wp2_with fail
      go_ret
      exact ⟨rfl, HB.out.trans (hb'.mono HB.out.size)⟩
end Go.Proofs.Ytaeamdgifknieaa.CellB
