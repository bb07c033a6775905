/- The row of the law SealLocks, out of a walk made by hand. Conditions: none beside the row's own. -/
import Derived.Test.YtdegeodegjmddaaRows
import Derived.Test.YtdegeodegjmddaaZPureSealLocks
import Derived.WalkKit
import Derived.ProofKit
import Derived.OpenShut
import Derived.ShutString
import Derived.ChangeOld
import Derived.Below
import Derived.SizedLaws
import Derived.Lib.SmallJoins
import Derived.ChangeSame
import Derived.Deep.Slices
namespace Go.Proofs.Ytdegeodegjmddaa.sealLocks
open Go.ChangeShapes Go.WideShapes Go.ChangeAt Go.RowKit
open Go.ChangeMaps (open_string shut_string)
set_option linter.unusedVariables false
theorem cellsL : Try.prog.cellsOf 23 = 4 := by kernel_rfl
theorem own : ownKnob Try.prog.godebug = none := by kernel_rfl
set_option maxRecDepth 100000 in
theorem lifted (os : Os) (started : os.Started) (H : Type) (enc : TypeId × Value → H) :
    ReturnsInHanded {} Try.checked os 5 .any (Rows.sealLocksSpec.pre6 enc Try.prog Try.f5 Rows.sealLocksRow.domain false) (Rows.sealLocksSpec.post enc Try.prog Try.f5 false true false false) := by
  refine returnsInHanded_of_change_sized (C := Try.checked) own started (by kernel_rfl) Try.func5
    (ChangeSpec.witness6 (enc := enc) (C := Try.checked) false ⟨#[], #[.string ByteArray.empty, .agg #[.string ByteArray.empty, .string ByteArray.empty, .string ByteArray.empty, .int .i64 0]], []⟩ 8 (by kernel_rfl) (by kernel_rfl) (by kernel_rfl) (by kernel_rfl)) ?_
  intro W base args ds gs before hval0 hW hcnd hsz0 _
  have hsz : (DataW.weightsEach Try.prog (Try.f5.params.toList ++ Rows.sealLocksSpec.plain.varTypes Try.prog) (ds ++ gs)).all (· ≤ reachBytes) = true := hsz0
  have hval : ∀ (j : Nat) t v, Try.f5.params[j]? = some t → args[j]? = some v → Value.okWide Try.prog W .any base t v := hval0
  have hW' := hW
  obtain ⟨p, q, hA0, hV, rfl, hfz, hnd⟩ := hW
  have hA : DataW.TrodAll enc Try.prog W 0 (fun _ => true) true Try.f5.params.toList args.toList ds p := hA0
  rw [Try.params5] at hA hval hsz
  obtain ⟨v0, vs0, d0, ds0, p0, q0, hargs, rfl, rfl, h0, r0⟩ := trodAll_cons hA
  obtain ⟨v1, vs1, d1, ds1, p1, q1, rfl, rfl, rfl, h1, r1⟩ := trodAll_cons r0
  obtain ⟨rfl, rfl, rfl⟩ := trodAll_nil r1
  obtain rfl : args = #[v0, v1] := by cases args; simp_all
  obtain ⟨rfl, rfl⟩ := trodVars_none hV
  obtain ⟨a0, rfl, rfl, rfl, y0⟩ := open_string Try.underlying9 (hval 0 9 v0 rfl rfl) h0
  have w0 : a0.size ≤ 140737488351232 := by
    have z := sized_string hsz (j := 0) (t := 9) rfl rfl
    rw [Array.length_toList] at z
    exact z
  obtain ⟨c1_0, c1_1, c1_2, c1_3, z1_0, z1_1, z1_2, z1_3, m1, rfl, rfl, rfl, hy1_0, hy1_1, hy1_2, hy1_3⟩ := Go.Joins.open_agg4 Try.underlying23 (by kernel_rfl) cellsL (hval 1 23 v1 rfl rfl) h1
  obtain ⟨a1_0, e1_0, rfl, k1_0⟩ := DataW.trod_string Try.underlying9 hy1_0
  obtain ⟨a1_1, e1_1, rfl, k1_1⟩ := DataW.trod_string Try.underlying9 hy1_1
  obtain ⟨a1_2, e1_2, rfl, k1_2⟩ := DataW.trod_string Try.underlying9 hy1_2
  obtain ⟨a1_3, e1_3, rfl, w1⟩ := DataW.trod_int Try.underlying3 hy1_3
  simp only [List.cons.injEq, and_true] at e1_0 e1_1 e1_2 e1_3
  subst e1_0 e1_1 e1_2 e1_3
  clear hA0 hval0 hsz0 hsz
  refine (Pure.SealLocks_walk a0 a1_0 a1_1 a1_2 a1_3 W w0 w1).mono fun e W' ⟨he, bel⟩ => ?_
  subst he
  exact ⟨_, rfl, _, _, _, [], _, [], hW', trodAll_mk1 (shut_bool Try.underlying4 _), (trodAll_cons_mk (shut_string Try.underlying9 y0) (trodAll_cons_mk (Go.Joins.shut_agg4 (y0 := (.lit (.string a1_0.data.toList), [])) (y1 := (.lit (.string a1_1.data.toList), [])) (y2 := (.lit (.string a1_2.data.toList), [])) (y3 := (.lit (.int .i64 a1_3), [])) Try.underlying23 (by kernel_rfl) cellsL (Go.Deep.shut_string_cell Try.underlying9 k1_0) (Go.Deep.shut_string_cell Try.underlying9 k1_1) (Go.Deep.shut_string_cell Try.underlying9 k1_2) ⟨1, trod_int_mk 0 Try.underlying3 w1⟩) trodAll_mk0)), rfl, bel.frame _, fun h => by cases h⟩
theorem over : Rows.sealLocksRow.holds Try.pinned (OpenSpec.ofChange Rows.sealLocksSpec) :=
  OpenClaim.holds_of_wide 5 Try.f5 rfl rfl rfl rfl rfl rfl rfl ⟨rfl, rfl, rfl, rfl, rfl⟩ rfl rfl rfl rfl rfl (by kernel_rfl) Try.func5 (by kernel_rfl)
    (of_decide_eq_true (by kernel_rfl)) (by unfold Func.isWrapper; first | (rw [if_pos (by decide +kernel)]; kernel_rfl) | (rw [if_neg (by decide +kernel)]; exact ⟨rfl, rfl⟩))
    (fun os started H enc _ => lifted os started H enc)
theorem proved : Rows.SealLocksSaid := over
#print axioms proved
end Go.Proofs.Ytdegeodegjmddaa.sealLocks
namespace Go.Proofs.Ytdegeodegjmddaa
/-- The row, under a short name, for the claim. -/
theorem sealLocks_holds : Rows.SealLocksSaid := sealLocks.proved
end Go.Proofs.Ytdegeodegjmddaa
