/- Two streams that are sealed to the same bytes by one lock are the same; what is sealed twice is the same. Conditions: none but the statement's own. -/
import Derived.Test.YtdegeodegjmddaaPSealOnex1
namespace Go.Proofs.Ytdegeodegjmddaa.Pure
open Go.RowKit Go.Proofs.Ytdegeodegjmddaa.PSealOne Go.Proofs.YtdegeodegjmddaaW.PrintWords Go.Proofs.YtdegeodegjmddaaW.PrintLast Go.Proofs.YtdegeodegjmddaaW.PrintMore

set_option linter.unusedVariables false
set_option linter.unusedSimpArgs false

theorem toList_beq (x y : ByteArray) : (x.toList == y.toList) = decide (x = y) := by
  by_cases h : x = y
  · rw [h]; simp
  · have hn : x.toList ≠ y.toList := fun e => h (by
      rw [Lib.toList_data, Lib.toList_data] at e
      exact ByteArray.ext (Array.toList_inj.1 e))
    rw [beq_eq_false_iff_ne.2 hn, decide_eq_false h]
theorem empty_list : (⟨#[]⟩ : ByteArray).toList = [] := by decide +kernel
open Given in
theorem sealOne_pure (a0 a1 p salt iv : ByteArray) (r : Int) : ∃ k, hamperlaw23_SealOne.f k a0 a1 p salt iv r = some true := by
  refine ⟨1, ?_⟩
  unfold hamperlaw23_SealOne.f
  simp only [law23_works.f, Option.bind_some, if_true]
  by_cases b0 : (a0.size : Int) > 1500
  · rw [if_pos b0]; simp [hamperlaw23_SealOne.j0, law23_works.f]
  by_cases b1 : (a1.size : Int) > 1500
  · rw [if_neg b0, if_pos b1]; simp [hamperlaw23_SealOne.j0, law23_works.f]
  by_cases b2 : (p.size : Int) > 500
  · rw [if_neg b0, if_neg b1, decide_eq_true b2]; simp [hamperlaw23_SealOne.j0, law23_works.f]
  rw [if_neg b0, if_neg b1, decide_eq_false b2]
  simp only [hamperlaw23_SealOne.j0, Bool.false_eq_true, if_false]
  unfold seal_Lock.f
  rw [if_neg (show ¬ 1048576 < a0.size by omega), if_neg (show ¬ 1048576 < a1.size by omega)]
  by_cases hp : p.size = 0
  · rw [if_pos hp, if_pos hp]
    simp only [Option.bind_some, if_true, toList_beq]
    have e : ((⟨#[0]⟩ : ByteArray) ++ a0 = ⟨#[0]⟩ ++ a1) ↔ a0 = a1 := by
      constructor
      · intro h
        have h1 := open_zero a0 ⟨#[]⟩ (by omega)
        rw [h, open_zero a1 ⟨#[]⟩ (by omega)] at h1
        have h2 := Option.some.inj h1
        exact ((Prod.mk.injEq ..).mp h2).1.symm
      · intro h; rw [h]
    simp [e]
  · rw [if_neg hp, if_neg hp]
    by_cases hi : iv.size = 16
    · rw [if_pos hi, if_pos hi]
      by_cases hk : p.size ≤ 64 ∧ salt.size = 16 ∧ 1 ≤ r ∧ r ≤ 64
      · rw [if_pos hk, if_pos hk]
        simp only [Option.bind_some, if_true, toList_beq]
        have e : (lockW a0 p salt iv r = lockW a1 p salt iv r) ↔ a0 = a1 := by
          constructor
          · exact fun h => lockW_inj a0 a1 p salt iv r (by omega) (by omega) hi h
          · intro h; rw [h]
        simp [e]
      · rw [if_neg hk, if_neg hk]
        simp [empty_list]
    · rw [if_neg hi, if_neg hi]
      simp [empty_list]
theorem SealOne_walk (a0 a1 p salt iv : ByteArray) (r : Int) (w : World) (w0 : a0.size ≤ 140737488351232) (w1 : a1.size ≤ 140737488351232) (w2 : (Lit.int .i64 r).wf = true) :
    Calls Try.prog 3 #[.string a0, .string a1, .agg #[.string p, .string salt, .string iv, .int .i64 r]] w fun e w' => e = .returned (.bool true) ∧ Below w.heap.size w w' := by
  obtain ⟨k, h⟩ := sealOne_pure a0 a1 p salt iv r
  exact hamperlaw23_SealOne.calls k a0 a1 p salt iv r true w h ⟨rfl⟩

end Go.Proofs.Ytdegeodegjmddaa.Pure
