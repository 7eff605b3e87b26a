/- FieldRing: products and sums of bytes are those of a ring: order and brackets play no part, products go through sums, 1 changes nothing. No condition beyond the statement's own. -/
import Derived.Test.YtaeamdgifknieaaRows
import Derived.Test.YtaeamdgifknieaaBFieldMuls
import Derived.WalkKit
import Derived.ProofKit
import Derived.OpenShut
import Derived.ShutString
import Derived.ChangeOld
import Derived.Below
import Derived.SizedLaws
namespace Go.Proofs.Ytaeamdgifknieaa.fieldRing
open Go.ChangeShapes Go.WideShapes Go.ChangeAt Go.RowKit
open Go.ChangeMaps (open_string shut_string)
open Go.Proofs.Ytaeamdgifknieaa.PFieldMuls Go.Proofs.YtaeamdgifknieaaW.PrintWords Go.Proofs.YtaeamdgifknieaaW.PrintLast Go.Proofs.YtaeamdgifknieaaW.PrintMore Go.Proofs.Ytaeamdgifknieaa.BFieldMuls Go.Proofs.Ytaeamdgifknieaa
set_option linter.unusedVariables false
set_option maxHeartbeats 1000000 in
set_option maxRecDepth 100000 in
theorem ring_walk (k : Nat) (a b c x y z u v : Int) (w : World) (hab : Aside0 (field_Mul.f k a b = some x)) (hba : Aside0 (field_Mul.f k b a = some x)) (hbc : Aside0 (field_Mul.f k b c = some y))
    (hay : Aside0 (field_Mul.f k a y = some z)) (hxc : Aside0 (field_Mul.f k x c = some z)) (hac : Aside0 (field_Mul.f k a c = some v)) (hu : Aside0 (field_Mul.f k a (Go.bits .xor .u8 b c) = some (Go.bits .xor .u8 x v)))
    (h1 : Aside0 (field_Mul.f k a 1 = some a)) (h0 : Aside0 (field_Mul.f k a 0 = some 0)) (hw : Aside0 (reliquarylaw01_awake.f k = some true)) :
    Calls Try.prog 10 #[.int .u8 a, .int .u8 b, .int .u8 c] w fun e w' => e = .returned (.bool true) ∧ Drawn0 w w' := by
  go_enter Try.func10, Try.ntmps10
  go_wp2_with (first | ((with_reducible refine gate_callee (f := 20) rfl ?_); refine goesL_ (some 9) rfl rfl Try.func20 (by kernel_rfl) rfl #[.int .u8 a, .int .u8 b] rfl (by (try simp only [List.map_toArray, List.map_cons, List.map_nil]); first | done | rfl | (simp only [List.length_drop, List.length_take]; rfl)) ?_; (with_reducible refine (field_Mul.calls k a b x _ hab.out).mono ?_); rintro e w' ⟨rfl, ⟨nd, rfl⟩⟩; refine ⟨_, rfl, ?_⟩) | ((with_reducible refine gate_callee (f := 20) rfl ?_); refine goesL_ (some 12) rfl rfl Try.func20 (by kernel_rfl) rfl #[.int .u8 b, .int .u8 a] rfl (by (try simp only [List.map_toArray, List.map_cons, List.map_nil]); first | done | rfl | (simp only [List.length_drop, List.length_take]; rfl)) ?_; (with_reducible refine (field_Mul.calls k b a x _ hba.out).mono ?_); rintro e w' ⟨rfl, ⟨nd, rfl⟩⟩; refine ⟨_, rfl, ?_⟩) | (go_at_call 20; (with_reducible refine (field_Mul.calls k b c y _ hbc.out).mono ?_); rintro e w' ⟨rfl, ⟨nd, rfl⟩⟩) | (go_at_call 20; (with_reducible refine (field_Mul.calls k a y z _ hay.out).mono ?_); rintro e w' ⟨rfl, ⟨nd, rfl⟩⟩) | (go_at_call 20; (with_reducible refine (field_Mul.calls k a b x _ hab.out).mono ?_); rintro e w' ⟨rfl, ⟨nd, rfl⟩⟩) | (go_at_call 20; (with_reducible refine (field_Mul.calls k x c z _ hxc.out).mono ?_); rintro e w' ⟨rfl, ⟨nd, rfl⟩⟩) | (go_at_call 20; (with_reducible refine (field_Mul.calls k a (Go.bits .xor .u8 b c) (Go.bits .xor .u8 x v) _ hu.out).mono ?_); rintro e w' ⟨rfl, ⟨nd, rfl⟩⟩) | (go_at_call 20; (with_reducible refine (field_Mul.calls k a c v _ hac.out).mono ?_); rintro e w' ⟨rfl, ⟨nd, rfl⟩⟩) | (go_at_call 20; (with_reducible refine (field_Mul.calls k a 1 a _ h1.out).mono ?_); rintro e w' ⟨rfl, ⟨nd, rfl⟩⟩) | (go_at_call 20; (with_reducible refine (field_Mul.calls k a 0 0 _ h0.out).mono ?_); rintro e w' ⟨rfl, ⟨nd, rfl⟩⟩) | (go_at_call 22; (with_reducible refine (reliquarylaw01_awake.calls k true _ hw.out).mono ?_); rintro e w' ⟨rfl, ⟨nd, rfl⟩⟩))
  go_ret
  exact ⟨by first | rfl | (simp; done) | (simp [*]; done), by repeat (first | exact Drawn0.refl _ | apply Drawn0.step)⟩
theorem walk (a0 a1 a2 : Int) (w : World) (w0 : (Lit.int .u8 a0).wf = true) (w1 : (Lit.int .u8 a1).wf = true) (w2 : (Lit.int .u8 a2).wf = true) :
    Calls Try.prog 10 #[.int .u8 a0, .int .u8 a1, .int .u8 a2] w fun e w' => e = .returned (.bool true) ∧ Below w.heap.size w w' := by
  obtain ⟨a, rfl, ha⟩ := byte_of w0
  obtain ⟨b, rfl, hb⟩ := byte_of w1
  obtain ⟨c, rfl, hc⟩ := byte_of w2
  have h1 : field_Mul.f 400 a 1 = some (a : Int) := (mul_eq 400 a 1 ha (by omega) (by omega)).trans (by rw [Fld.mul_one])
  have h0 : field_Mul.f 400 a 0 = some 0 := (mul_eq 400 a 0 ha (by omega) (by omega)).trans (by rw [Fld.mul_zero]; rfl)
  have hba := mul_eq 400 b a hb ha (by omega)
  rw [Fld.mul_comm hb ha] at hba
  have hxc := mul_eq 400 (Fld.mul a b) c (Fld.mul_lt _ ha) hc (by omega)
  rw [Fld.mul_assoc _ ha hb] at hxc
  have hu := mul_eq 400 a (b ^^^ c) ha (Fld.xlt hb hc) (by omega)
  rw [← u8_xor_nat b c hb hc, Fld.mul_xor, ← u8_xor_nat _ _ (Fld.mul_lt b ha) (Fld.mul_lt c ha)] at hu
  refine (ring_walk 400 a b c _ _ _ 0 _ w ⟨mul_eq 400 a b ha hb (by omega)⟩ ⟨hba⟩ ⟨mul_eq 400 b c hb hc (by omega)⟩ ⟨mul_eq 400 a (Fld.mul b c) ha (Fld.mul_lt _ hb) (by omega)⟩ ⟨hxc⟩ ⟨mul_eq 400 a c ha hc (by omega)⟩ ⟨hu⟩ ⟨h1⟩ ⟨h0⟩ ⟨awake_eq 400 (by omega)⟩).mono fun e w' ⟨he, hd⟩ => ⟨he, ?_⟩
  obtain ⟨⟨n, rfl⟩⟩ := hd
  exact ⟨rfl, rfl, rfl, Nat.le_refl _, fun _ _ => rfl⟩
theorem own : ownKnob Try.prog.godebug = none := by kernel_rfl
set_option maxRecDepth 100000 in
theorem lifted (os : Os) (started : os.Started) (H : Type) (enc : TypeId × Value → H) :
    ReturnsInHanded {} Try.checked os 10 .any (Rows.fieldRingSpec.pre6 enc Try.prog Try.f10 Rows.fieldRingRow.domain false) (Rows.fieldRingSpec.post enc Try.prog Try.f10 false true false false) := by
  refine returnsInHanded_of_change_sized (C := Try.checked) own started (by kernel_rfl) Try.func10
    (ChangeSpec.witness6 (enc := enc) (C := Try.checked) false ⟨#[], #[.int .u8 0, .int .u8 0, .int .u8 0], []⟩ 8 (by kernel_rfl) (by kernel_rfl) (by kernel_rfl) (by kernel_rfl)) ?_
  intro W base args ds gs before hval0 hW hcnd hsz0 _
  have hsz : (DataW.weightsEach Try.prog (Try.f10.params.toList ++ Rows.fieldRingSpec.plain.varTypes Try.prog) (ds ++ gs)).all (· ≤ reachBytes) = true := hsz0
  have hval : ∀ (j : Nat) t v, Try.f10.params[j]? = some t → args[j]? = some v → Value.okWide Try.prog W .any base t v := hval0
  have hW' := hW
  obtain ⟨p, q, hA0, hV, rfl, hfz, hnd⟩ := hW
  have hA : DataW.TrodAll enc Try.prog W 0 (fun _ => true) true Try.f10.params.toList args.toList ds p := hA0
  rw [Try.params10] at hA hval hsz
  obtain ⟨v0, vs0, d0, ds0, p0, q0, hargs, rfl, rfl, h0, r0⟩ := trodAll_cons hA
  obtain ⟨v1, vs1, d1, ds1, p1, q1, rfl, rfl, rfl, h1, r1⟩ := trodAll_cons r0
  obtain ⟨v2, vs2, d2, ds2, p2, q2, rfl, rfl, rfl, h2, r2⟩ := trodAll_cons r1
  obtain ⟨rfl, rfl, rfl⟩ := trodAll_nil r2
  obtain rfl : args = #[v0, v1, v2] := by cases args; simp_all
  obtain ⟨rfl, rfl⟩ := trodVars_none hV
  obtain ⟨a0, rfl, rfl, rfl, w0⟩ := open_int Try.underlying5 (hval 0 5 v0 rfl rfl) h0
  obtain ⟨a1, rfl, rfl, rfl, w1⟩ := open_int Try.underlying5 (hval 1 5 v1 rfl rfl) h1
  obtain ⟨a2, rfl, rfl, rfl, w2⟩ := open_int Try.underlying5 (hval 2 5 v2 rfl rfl) h2
  clear hA0 hval0 hsz0 hsz
  refine (walk a0 a1 a2 W w0 w1 w2).mono fun e W' ⟨he, bel⟩ => ?_
  subst he
  exact ⟨_, rfl, _, _, _, [], _, [], hW', trodAll_mk1 (shut_bool Try.underlying4 _), (trodAll_cons_mk (shut_int Try.underlying5 w0) (trodAll_cons_mk (shut_int Try.underlying5 w1) (trodAll_cons_mk (shut_int Try.underlying5 w2) trodAll_mk0))), rfl, bel.frame _, fun h => by cases h⟩
theorem over : Rows.fieldRingRow.holds Try.pinned (OpenSpec.ofChange Rows.fieldRingSpec) :=
  OpenClaim.holds_of_wide 10 Try.f10 rfl rfl rfl rfl rfl rfl rfl ⟨rfl, rfl, rfl, rfl, rfl⟩ rfl rfl rfl rfl rfl (by kernel_rfl) Try.func10 (by kernel_rfl)
    (of_decide_eq_true (by kernel_rfl)) (by unfold Func.isWrapper; first | (rw [if_pos (by decide +kernel)]; kernel_rfl) | (rw [if_neg (by decide +kernel)]; exact ⟨rfl, rfl⟩))
    (fun os started H enc _ => lifted os started H enc)
theorem proved : Rows.FieldRingSaid := over
#print axioms proved
end Go.Proofs.Ytaeamdgifknieaa.fieldRing
namespace Go.Proofs.Ytaeamdgifknieaa
/-- The row, under a short name, for the claim. -/
theorem fieldRing_holds : Rows.FieldRingSaid := fieldRing.proved
end Go.Proofs.Ytaeamdgifknieaa
