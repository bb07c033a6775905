/- The row of the law SealOne, out of a walk made by hand. Conditions: none beside the row's own. -/
import Derived.Test.YtdegeodegjmddaaRows
import Derived.Test.YtdegeodegjmddaaPureSealOne
import Derived.WalkKit
import Derived.ProofKit
import Derived.OpenShut
import Derived.ShutString
import Derived.ChangeOld
import Derived.Below
import Derived.SizedLaws
import Derived.Lib.SmallJoins
import Derived.ChangeSame
import Derived.Deep.Slices
namespace Go.Proofs.Ytdegeodegjmddaa.sealOne
open Go.ChangeShapes Go.WideShapes Go.ChangeAt Go.RowKit
open Go.ChangeMaps (open_string shut_string)
set_option linter.unusedVariables false
theorem cellsL : Try.prog.cellsOf 23 = 4 := by kernel_rfl
theorem own : ownKnob Try.prog.godebug = none := by kernel_rfl
set_option maxRecDepth 100000 in
theorem lifted (os : Os) (started : os.Started) (H : Type) (enc : TypeId × Value → H) :
    ReturnsInHanded {} Try.checked os 3 .any (Rows.sealOneSpec.pre6 enc Try.prog Try.f3 Rows.sealOneRow.domain false) (Rows.sealOneSpec.post enc Try.prog Try.f3 false true false false) := by
  refine returnsInHanded_of_change_sized (C := Try.checked) own started (by kernel_rfl) Try.func3
    (ChangeSpec.witness6 (enc := enc) (C := Try.checked) false ⟨#[], #[.string ByteArray.empty, .string ByteArray.empty, .agg #[.string ByteArray.empty, .string ByteArray.empty, .string ByteArray.empty, .int .i64 0]], []⟩ 8 (by kernel_rfl) (by kernel_rfl) (by kernel_rfl) (by kernel_rfl)) ?_
  intro W base args ds gs before hval0 hW hcnd hsz0 _
  have hsz : (DataW.weightsEach Try.prog (Try.f3.params.toList ++ Rows.sealOneSpec.plain.varTypes Try.prog) (ds ++ gs)).all (· ≤ reachBytes) = true := hsz0
  have hval : ∀ (j : Nat) t v, Try.f3.params[j]? = some t → args[j]? = some v → Value.okWide Try.prog W .any base t v := hval0
  have hW' := hW
  obtain ⟨p, q, hA0, hV, rfl, hfz, hnd⟩ := hW
  have hA : DataW.TrodAll enc Try.prog W 0 (fun _ => true) true Try.f3.params.toList args.toList ds p := hA0
  rw [Try.params3] at hA hval hsz
  obtain ⟨v0, vs0, d0, ds0, p0, q0, hargs, rfl, rfl, h0, r0⟩ := trodAll_cons hA
  obtain ⟨v1, vs1, d1, ds1, p1, q1, rfl, rfl, rfl, h1, r1⟩ := trodAll_cons r0
  obtain ⟨v2, vs2, d2, ds2, p2, q2, rfl, rfl, rfl, h2, r2⟩ := trodAll_cons r1
  obtain ⟨rfl, rfl, rfl⟩ := trodAll_nil r2
  obtain rfl : args = #[v0, v1, v2] := by cases args; simp_all
  obtain ⟨rfl, rfl⟩ := trodVars_none hV
  obtain ⟨a0, rfl, rfl, rfl, y0⟩ := open_string Try.underlying9 (hval 0 9 v0 rfl rfl) h0
  have w0 : a0.size ≤ 140737488351232 := by
    have z := sized_string hsz (j := 0) (t := 9) rfl rfl
    rw [Array.length_toList] at z
    exact z
  obtain ⟨a1, rfl, rfl, rfl, y1⟩ := open_string Try.underlying9 (hval 1 9 v1 rfl rfl) h1
  have w1 : a1.size ≤ 140737488351232 := by
    have z := sized_string hsz (j := 1) (t := 9) rfl rfl
    rw [Array.length_toList] at z
    exact z
  obtain ⟨c2_0, c2_1, c2_2, c2_3, z2_0, z2_1, z2_2, z2_3, m2, rfl, rfl, rfl, hy2_0, hy2_1, hy2_2, hy2_3⟩ := Go.Joins.open_agg4 Try.underlying23 (by kernel_rfl) cellsL (hval 2 23 v2 rfl rfl) h2
  obtain ⟨a2_0, e2_0, rfl, k2_0⟩ := DataW.trod_string Try.underlying9 hy2_0
  obtain ⟨a2_1, e2_1, rfl, k2_1⟩ := DataW.trod_string Try.underlying9 hy2_1
  obtain ⟨a2_2, e2_2, rfl, k2_2⟩ := DataW.trod_string Try.underlying9 hy2_2
  obtain ⟨a2_3, e2_3, rfl, w2⟩ := DataW.trod_int Try.underlying3 hy2_3
  simp only [List.cons.injEq, and_true] at e2_0 e2_1 e2_2 e2_3
  subst e2_0 e2_1 e2_2 e2_3
  clear hA0 hval0 hsz0 hsz
  refine (Pure.SealOne_walk a0 a1 a2_0 a2_1 a2_2 a2_3 W w0 w1 w2).mono fun e W' ⟨he, bel⟩ => ?_
  subst he
  exact ⟨_, rfl, _, _, _, [], _, [], hW', trodAll_mk1 (shut_bool Try.underlying4 _), (trodAll_cons_mk (shut_string Try.underlying9 y0) (trodAll_cons_mk (shut_string Try.underlying9 y1) (trodAll_cons_mk (Go.Joins.shut_agg4 (y0 := (.lit (.string a2_0.data.toList), [])) (y1 := (.lit (.string a2_1.data.toList), [])) (y2 := (.lit (.string a2_2.data.toList), [])) (y3 := (.lit (.int .i64 a2_3), [])) Try.underlying23 (by kernel_rfl) cellsL (Go.Deep.shut_string_cell Try.underlying9 k2_0) (Go.Deep.shut_string_cell Try.underlying9 k2_1) (Go.Deep.shut_string_cell Try.underlying9 k2_2) ⟨1, trod_int_mk 0 Try.underlying3 w2⟩) trodAll_mk0))), rfl, bel.frame _, fun h => by cases h⟩
theorem over : Rows.sealOneRow.holds Try.pinned (OpenSpec.ofChange Rows.sealOneSpec) :=
  OpenClaim.holds_of_wide 3 Try.f3 rfl rfl rfl rfl rfl rfl rfl ⟨rfl, rfl, rfl, rfl, rfl⟩ rfl rfl rfl rfl rfl (by kernel_rfl) Try.func3 (by kernel_rfl)
    (of_decide_eq_true (by kernel_rfl)) (by unfold Func.isWrapper; first | (rw [if_pos (by decide +kernel)]; kernel_rfl) | (rw [if_neg (by decide +kernel)]; exact ⟨rfl, rfl⟩))
    (fun os started H enc _ => lifted os started H enc)
theorem proved : Rows.SealOneSaid := over
#print axioms proved
end Go.Proofs.Ytdegeodegjmddaa.sealOne
namespace Go.Proofs.Ytdegeodegjmddaa
/-- The row, under a short name, for the claim. -/
theorem sealOne_holds : Rows.SealOneSaid := sealOne.proved
end Go.Proofs.Ytdegeodegjmddaa
