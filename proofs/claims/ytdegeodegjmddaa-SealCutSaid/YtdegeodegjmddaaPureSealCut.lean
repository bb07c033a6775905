/- A locked stream without its last bytes, or with some behind it, that are no multiple of 16, is refused; one that is not locked is any bytes. Conditions: none but the statement's own. -/
import Derived.Test.YtdegeodegjmddaaPSealCutx1
namespace Go.Proofs.Ytdegeodegjmddaa.Pure
open Go.RowKit Go.Proofs.Ytdegeodegjmddaa.PSealCut Go.Proofs.YtdegeodegjmddaaW.PrintWords Go.Proofs.YtdegeodegjmddaaW.PrintLast Go.Proofs.YtdegeodegjmddaaW.PrintMore

set_option linter.unusedVariables false
set_option linter.unusedSimpArgs false

theorem toList_beq (x y : ByteArray) : (x.toList == y.toList) = decide (x = y) := by
  by_cases h : x = y
  · rw [h]; simp
  · have hn : x.toList ≠ y.toList := fun e => h (by
      rw [Lib.toList_data, Lib.toList_data] at e
      exact ByteArray.ext (Array.toList_inj.1 e))
    rw [beq_eq_false_iff_ne.2 hn, decide_eq_false h]
theorem empty_list : (⟨#[]⟩ : ByteArray).toList = [] := by decide +kernel
theorem toList_nil_iff (p : ByteArray) : p.toList = [] ↔ p.size = 0 := by
  rw [Lib.toList_data, ← List.length_eq_zero_iff, Array.length_toList]
  rfl
theorem cut_number (x : Int) : ∃ k : Nat, 1 ≤ k ∧ k ≤ 15 ∧ wrap64 (1 + wrap64 (Int.tmod (IntKind.u64.wrap x) 15)) = (k : Int) := by
  have h0 : 0 ≤ IntKind.u64.wrap x := by rw [IntKind.wrap_u64]; omega
  have h1 := Int.tmod_nonneg 15 h0
  have h2 := Int.tmod_lt_of_pos (IntKind.u64.wrap x) (show (0 : Int) < 15 by decide)
  generalize Int.tmod (IntKind.u64.wrap x) 15 = m at *
  refine ⟨(1 + m).toNat, by omega, by omega, ?_⟩
  unfold wrap64
  omega
open Given Cbc in
theorem sealCut_pure (a0 p salt iv : ByteArray) (r a2 : Int) (a3 : ByteArray) : ∃ k, hamperlaw23_SealCut.f k a0 p salt iv r a2 a3 = some true := by
  refine ⟨1, ?_⟩
  unfold hamperlaw23_SealCut.f
  simp only [law23_works.f, Option.bind_some, if_true]
  by_cases b0 : (a0.size : Int) > 1500
  · rw [if_pos b0]; simp [hamperlaw23_SealCut.j0, law23_works.f]
  by_cases b1 : (p.size : Int) > 500
  · rw [if_neg b0, if_pos b1]; simp [hamperlaw23_SealCut.j0, law23_works.f]
  by_cases b2 : (a3.size : Int) > 500
  · rw [if_neg b0, if_neg b1, decide_eq_true b2]; simp [hamperlaw23_SealCut.j0, law23_works.f]
  rw [if_neg b0, if_neg b1, decide_eq_false b2]
  simp only [hamperlaw23_SealCut.j0, Bool.false_eq_true, if_false]
  unfold seal_Lock.f
  rw [if_neg (by omega)]
  by_cases hp : p.size = 0
  · have hz : ((⟨#[0]⟩ : ByteArray) ++ a0).size = 1 + a0.size := by rw [ByteArray.size_append]; rfl
    rw [if_pos hp]
    simp only [Option.bind_some, if_true, if_pos ((toList_nil_iff p).2 hp)]
    rw [if_pos (by omega), ByteArray.append_assoc, open_zero (a0 ++ a3) _ (by rw [ByteArray.size_append]; omega)]
    simp only [Option.bind_some, if_true]
    rw [if_pos (by omega), beq_self_eq_true]
  · rw [if_neg hp]
    by_cases hi : iv.size = 16
    · rw [if_pos hi]
      by_cases hk : p.size ≤ 64 ∧ salt.size = 16 ∧ 1 ≤ r ∧ r ≤ 64
      · rw [if_pos hk]
        simp only [Option.bind_some, if_true]
        obtain ⟨hk1, hk2, hk3, hk4⟩ := hk
        obtain ⟨k, k1, k2, hkn⟩ := cut_number a2
        have hsz := lockW_size a0 p salt iv r hk2 hi
        have hfz := frameW_size a0
        have hfm := frameW_mod a0
        have hpad : pad a0.size < 16 := by unfold pad; omega
        have hn : wrap64 (((lockW a0 p salt iv r).size : Int) - (k : Int)) = (((lockW a0 p salt iv r).size - k : Nat) : Int) := by
          unfold wrap64; omega
        rw [if_neg (fun e => hp ((toList_nil_iff p).1 e)), hkn, hn, if_pos (by omega), if_pos (by omega)]
        simp only [Int.toNat_natCast]
        obtain ⟨body, hbody⟩ : ∃ b, b = sealW (Given.keyOf p salt r) iv a0 := ⟨_, rfl⟩
        have hlist := lockW_list a0 p salt iv r
        rw [← hbody] at hlist
        have hbz : body.size = (frameW a0).size := by rw [hbody, sealW_size]
        have hH := lockH_length p salt iv r hk2 hi
        have hcut : seal_Open.f ((lockW a0 p salt iv r).extract 0 ((lockW a0 p salt iv r).size - k)) p = some (⟨#[]⟩, 4) := by
          have hl : ((lockW a0 p salt iv r).extract 0 ((lockW a0 p salt iv r).size - k)).data.toList = lockH p salt iv r ++ (body.extract 0 (body.size - k)).data.toList := by
            rw [extract_list, extract_list, hlist, List.take_append, hH, List.take_of_length_le (by omega), show (lockW a0 p salt iv r).size - k - 42 = body.size - k from by omega]
            simp
          have hes : (body.extract 0 (body.size - k)).size = body.size - k := by rw [ByteArray.size_extract]; omega
          rw [open_head _ p salt iv p _ r hl hk2 hi hk3 hk4, if_neg (by omega), if_pos rfl, open_f_form _ _ _ (Given.keyOf_size _ _ _) hi (.inr (by rw [hes]; omega))]
          rfl
        rw [hcut]
        simp only [Option.bind_some]
        rw [if_pos (by omega)]
        have hmore : ((lockW a0 p salt iv r) ++ a3).data.toList = lockH p salt iv r ++ (body ++ a3).data.toList := by
          rw [show ((lockW a0 p salt iv r) ++ a3).data.toList = (lockW a0 p salt iv r).data.toList ++ a3.data.toList from by simp, hlist, show (body ++ a3).data.toList = body.data.toList ++ a3.data.toList from by simp, List.append_assoc]
        have hms : (body ++ a3).size = body.size + a3.size := by rw [ByteArray.size_append]
        rw [open_head _ p salt iv p _ r hmore hk2 hi hk3 hk4, if_neg (by omega), if_pos rfl]
        by_cases hm : (a3.size : Int) % 16 = 0
        · rw [open_f _ _ _ (Given.keyOf_size _ _ _) hi (by omega) (by omega) (by omega)]
          simp only [Option.bind_some]
          by_cases hc : (openR (Given.keyOf p salt r) iv (body ++ a3)).2 = 0
          · rw [if_pos hc]; simp [hm]
          · rw [if_neg hc]; simp [hm]
        · rw [open_f_form _ _ _ (Given.keyOf_size _ _ _) hi (.inr (by omega))]
          simp [hm]
      · rw [if_neg hk]
        rfl
    · rw [if_neg hi]
      rfl
theorem SealCut_walk (a0 p salt iv : ByteArray) (r a2 : Int) (a3 : ByteArray) (w : World) (w0 : a0.size ≤ 140737488351232) (w1 : (Lit.int .i64 r).wf = true) (w2 : (Lit.int .i64 a2).wf = true) (w3 : a3.size ≤ 140737488351232) :
    Calls Try.prog 4 #[.string a0, .agg #[.string p, .string salt, .string iv, .int .i64 r], .int .i64 a2, .string a3] w fun e w' => e = .returned (.bool true) ∧ Below w.heap.size w w' := by
  obtain ⟨k, h⟩ := sealCut_pure a0 p salt iv r a2 a3
  exact hamperlaw23_SealCut.calls k a0 p salt iv r a2 a3 true w h ⟨rfl⟩

end Go.Proofs.Ytdegeodegjmddaa.Pure
