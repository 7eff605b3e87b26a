/- AllocForks: a fork is as the set is, and what becomes of one changes nothing of the other. No condition beyond the statement's own. -/
import Derived.Test.YtkpdmbcefjjfgaaDoorTb
import Derived.Test.YtkpdmbcefjjfgaaDoorAc
import Derived.Test.YtkpdmbcefjjfgaaDoorFo
namespace Go.Proofs.YtkpdmbcefjjfgaaDoor.allocForks
open Go.ChangeShapes Go.WideShapes Go.ChangeAt Go.RowKit Tb
set_option linter.unusedVariables false

theorem contract (H : Type) (enc : TypeId × Value → H) (W : World) (base : Nat) (args : Array Value) (ds gs : List (DataW H)) (before : List MemPlace)
    (hval : ∀ (j : Nat) t v, Tryd.f3.params[j]? = some t → args[j]? = some v → Value.okWide Tryd.prog W .any base t v)
    (hW : DataW.Whole enc Tryd.prog Tryd.f3.params.toList Rows.allocForksSpec.vars false W args.toList ds gs before) (hL : laidMetH Tryd.prog Rows.allocForksRow.laid W) :
    Calls Tryd.prog 3 args W fun e W' => ∃ v, e = .returned v ∧ Rows.allocForksSpec.post enc Tryd.prog Tryd.f3 false true false false W args v W' := by
  have hW' := hW
  obtain ⟨p, q, hA0, hV, rfl, hfz, hnd⟩ := hW
  have hA : DataW.TrodAll enc Tryd.prog W 0 (fun _ => true) true Tryd.f3.params.toList args.toList ds p := hA0
  rw [Tryd.params3] at hA hval
  obtain ⟨v0, vs0, d0, ds0, p0, q0, hargs, rfl, rfl, h0, r0⟩ := trodAll_cons hA
  obtain ⟨v1, vs1, d1, ds1, p1, q1, rfl, rfl, rfl, h1, r1⟩ := trodAll_cons r0
  obtain ⟨v2, vs2, d2, ds2, p2, q2, rfl, rfl, rfl, h2, r2⟩ := trodAll_cons r1
  obtain ⟨rfl, rfl, rfl⟩ := trodAll_nil r2
  obtain rfl : args = #[v0, v1, v2] := by cases args; simp_all
  obtain ⟨rfl, rfl⟩ := trodVars_none hV
  obtain ⟨a0, rfl, rfl, rfl, w0⟩ := open_int Tryd.underlying22 (hval 0 22 v0 rfl rfl) h0
  have k1 := h1
  have lt1 : ∀ x ∈ p1, x.block < W.heap.size := by obtain ⟨m, hm⟩ := k1; exact DataW.trod_lt m _ _ _ hm
  obtain ⟨a1, len1, cap1, rfl⟩ := okWide_slice Tryd.underlying23 (hval 1 23 v1 rfl rfl)
  obtain ⟨z1, e1, m1, y1⟩ : ∃ l : List (Nat × Nat), l.length = len1 ∧ len1 ≤ maxLen ∧ Pl.Acts W a1 l := by
    obtain ⟨fuel, hf⟩ := h1
    rcases Go.Deep.open_slice_pairs Tryd.underlying23 Tryd.underlying35 (by kernel_rfl) rfl rfl (by kernel_rfl) (by kernel_rfl) hf with ⟨hcs, _⟩ | ⟨x, l, c, m, q, V0, V1, D0, D1, P0, P1, hcs, _, hl, hm, hmm, _, hc⟩
    · simp [Value.cells] at hcs
      obtain ⟨rfl, rfl, rfl⟩ := hcs
      exact ⟨[], rfl, Nat.zero_le _, Ac.acts_nil _ _⟩
    · simp [Value.cells] at hcs
      obtain ⟨rfl, rfl, rfl⟩ := hcs
      obtain ⟨ns, g1, g2⟩ := Ac.acts_of (w := W) (x := x) (len := len1) (fun i hi => by
        obtain ⟨q0, q1, t0, t1⟩ := hc i (by rw [hmm]; split <;> omega)
        obtain ⟨n0, g0, _, f0⟩ := DataW.trod_int Tryd.underlying5 t0
        obtain ⟨n1, g1, _, f1⟩ := DataW.trod_int Tryd.underlying33 t1
        obtain ⟨k0, rfl, b0⟩ := Si.nat_of f0 rfl
        obtain ⟨k1, rfl, b1⟩ := Si.nat_of f1 rfl
        have e8 : IntKind.u8.max = 255 := rfl
        have e32 : IntKind.u32.max = 4294967295 := rfl
        simp only [List.cons.injEq, and_true] at g0 g1
        exact ⟨k0, k1, by omega, by omega, by rw [q0, g0], by rw [q1, g1]⟩)
      exact ⟨ns, g1, Nat.le_trans hl hm, g2⟩
  subst e1
  have k2 := h2
  have lt2 : ∀ x ∈ p2, x.block < W.heap.size := by obtain ⟨m, hm⟩ := k2; exact DataW.trod_lt m _ _ _ hm
  obtain ⟨a2, len2, cap2, rfl⟩ := okWide_slice Tryd.underlying23 (hval 2 23 v2 rfl rfl)
  obtain ⟨z2, e2, m2, y2⟩ : ∃ l : List (Nat × Nat), l.length = len2 ∧ len2 ≤ maxLen ∧ Pl.Acts W a2 l := by
    obtain ⟨fuel, hf⟩ := h2
    rcases Go.Deep.open_slice_pairs Tryd.underlying23 Tryd.underlying35 (by kernel_rfl) rfl rfl (by kernel_rfl) (by kernel_rfl) hf with ⟨hcs, _⟩ | ⟨x, l, c, m, q, V0, V1, D0, D1, P0, P1, hcs, _, hl, hm, hmm, _, hc⟩
    · simp [Value.cells] at hcs
      obtain ⟨rfl, rfl, rfl⟩ := hcs
      exact ⟨[], rfl, Nat.zero_le _, Ac.acts_nil _ _⟩
    · simp [Value.cells] at hcs
      obtain ⟨rfl, rfl, rfl⟩ := hcs
      obtain ⟨ns, g1, g2⟩ := Ac.acts_of (w := W) (x := x) (len := len2) (fun i hi => by
        obtain ⟨q0, q1, t0, t1⟩ := hc i (by rw [hmm]; split <;> omega)
        obtain ⟨n0, g0, _, f0⟩ := DataW.trod_int Tryd.underlying5 t0
        obtain ⟨n1, g1, _, f1⟩ := DataW.trod_int Tryd.underlying33 t1
        obtain ⟨k0, rfl, b0⟩ := Si.nat_of f0 rfl
        obtain ⟨k1, rfl, b1⟩ := Si.nat_of f1 rfl
        have e8 : IntKind.u8.max = 255 := rfl
        have e32 : IntKind.u32.max = 4294967295 := rfl
        simp only [List.cons.injEq, and_true] at g0 g1
        exact ⟨k0, k1, by omega, by omega, by rw [q0, g0], by rw [q1, g1]⟩)
      exact ⟨ns, g1, Nat.le_trans hl hm, g2⟩
  subst e2
  clear hA0
  try simp only [List.append_nil] at hW'
  have ht := table hL
  refine (Fo.forks_law a0 w0 a1 cap1 z1 a2 cap2 z2 y1 m1 y2 m2 ht).mono fun e W' ⟨he, bel⟩ => ?_
  subst he
  exact ⟨_, rfl, _, _, _, [], _, [], hW', trodAll_mk1 (shut_bool Tryd.underlying4 _), (trodAll_cons_mk (shut_int Tryd.underlying22 w0) (trodAll_cons_mk (Below.trod laidOut (by kernel_rfl) (of_decide_eq_true (by kernel_rfl)) k1 bel lt1) (trodAll_cons_mk (Below.trod laidOut (by kernel_rfl) (of_decide_eq_true (by kernel_rfl)) k2 bel lt2) trodAll_mk0))), rfl, bel.frame _, fun h => by cases h⟩
theorem laid_met (os : Os) : laidMet Tryd.prog Rows.allocForksRow.laid ((laidWorld os).forCall (fun _ _ => 0) ⟨#[], #[.int .u16 0, .slice none 0 0, .slice none 0 0], []⟩).memory :=
  laidMet_of_run' 8 (by kernel_rfl) (by kernel_rfl)
theorem reads (os : Os) {H : Type} (enc : TypeId × Value → H) : ∃ places, DataW.whole enc Tryd.prog ((laidWorld os).forCall (fun _ _ => 0) ⟨#[], #[.int .u16 0, .slice none 0 0, .slice none 0 0], []⟩).memory Tryd.f3.params.toList Rows.allocForksSpec.vars false (#[.int .u16 0, .slice none 0 0, .slice none 0 0] : Array Value).toList 8 = some ([.lit (.int .u16 0), .nil, .nil], [], places) :=
  ⟨[], by kernel_rfl⟩
set_option maxRecDepth 100000 in
theorem lifted (os : Os) (started : os.Started) (H : Type) (enc : TypeId × Value → H) (F : Stop.Interp) :
    ReturnsInHanded {} Tryd.checked os 3 .any ((OpenSpec.ofChange Rows.allocForksSpec).preRow enc Tryd.prog Tryd.f3 Rows.allocForksRow.domain false Rows.allocForksRow.laid) (((OpenSpec.ofChange Rows.allocForksSpec).at F).post enc Tryd.prog Tryd.f3 false true false false) := by
  obtain ⟨places, hx⟩ := reads os enc
  refine returnsInHanded_of_row (C := Tryd.checked) (s := OpenSpec.ofChange Rows.allocForksSpec) own started (by kernel_rfl) Tryd.func3
    (witness_row_at (enc := enc) (C := Tryd.checked) false (laidWorld os) #[.int .u16 0, .slice none 0 0, .slice none 0 0] rfl (by kernel_rfl) (by kernel_rfl) (by kernel_rfl)
      (OpenSpec.preRow_of_cond 8 hx (by kernel_rfl) (fun k hk => by cases hk) (by kernel_rfl) (laid_met os))) ?_
  intro W base args ds gs before hval hW _ _ _ hL _ _
  exact contract H enc W base args ds gs before hval hW hL
theorem said : Rows.AllocForksSaid :=
  OpenClaim.holds_of_cond 3 Tryd.f3 rfl rfl rfl rfl rfl rfl rfl ⟨rfl, rfl, rfl, rfl, rfl⟩ rfl rfl rfl rfl rfl (by kernel_rfl) Tryd.func3 (by kernel_rfl)
    (of_decide_eq_true (by kernel_rfl)) (by unfold Func.isWrapper; first | (rw [if_pos (by decide +kernel)]; kernel_rfl) | (rw [if_neg (by decide +kernel)]; exact ⟨rfl, rfl⟩))
    (fun os started H enc _ F => by rw [OpenClaim.pre_eq_preRow]; exact lifted os started H enc F)
theorem plain (f : FuncId) (fn : Func) (hf : Tryd.pinned.checked.prog.funcNamed "reliquary/reliquarylaw17.AllocForks" = some f) (hfn : Tryd.pinned.checked.prog.funcs[f]? = some fn) :
    false = Tryd.pinned.checked.prog.looks [] ∧ ∀ (j : Nat) t, fn.params[j]? = some t → Tryd.pinned.checked.prog.wantsStandIn t = false := by
  obtain rfl : f = 3 := Option.some.inj ((show Tryd.prog.funcNamed "reliquary/reliquarylaw17.AllocForks" = some 3 by kernel_rfl).symm.trans hf) |>.symm
  obtain rfl : fn = Tryd.f3 := (Option.some.inj (Tryd.func3.symm.trans hfn)).symm
  refine ⟨by kernel_rfl, fun j t ht => ?_⟩
  rw [Tryd.params3] at ht
  have hm := Array.mem_of_getElem? ht
  simp only [List.mem_toArray, List.mem_cons, List.not_mem_nil, or_false] at hm
  rcases hm with rfl | rfl | rfl
  · exact (show Tryd.prog.wantsStandIn 22 = false by kernel_rfl)
  · exact (show Tryd.prog.wantsStandIn 23 = false by kernel_rfl)
  · exact (show Tryd.prog.wantsStandIn 23 = false by kernel_rfl)
theorem card : Rows.AllocForksCardSaid :=
  Claim7.holds_tied_plain_at .later [] _ _ _ _ said (fun _ h => by cases h) (by kernel_rfl) (fun _ h => by cases h) allocForks_row_tie rfl ⟨rfl, rfl⟩ (by kernel_rfl) rfl plain (by kernel_rfl)
#print axioms card
end Go.Proofs.YtkpdmbcefjjfgaaDoor.allocForks
namespace Go.Proofs.YtkpdmbcefjjfgaaDoor
theorem allocForks_holds : Rows.AllocForksCardSaid := allocForks.card
end Go.Proofs.YtkpdmbcefjjfgaaDoor
