/- Open of Lock, by the same password, is the stream; by another one it is refused, unless both have one check; the sizes. Conditions: none but the statement's own. -/
import Derived.Test.YtdegeodegjmddaaPSealBackx1
namespace Go.Proofs.Ytdegeodegjmddaa.Pure
open Go.RowKit Go.Proofs.Ytdegeodegjmddaa.PSealBack Go.Proofs.YtdegeodegjmddaaW.PrintWords Go.Proofs.YtdegeodegjmddaaW.PrintLast Go.Proofs.YtdegeodegjmddaaW.PrintMore

set_option linter.unusedVariables false
set_option linter.unusedSimpArgs false

theorem toList_beq (x y : ByteArray) : (x.toList == y.toList) = decide (x = y) := by
  by_cases h : x = y
  · rw [h]; simp
  · have hn : x.toList ≠ y.toList := fun e => h (by
      rw [Lib.toList_data, Lib.toList_data] at e
      exact ByteArray.ext (Array.toList_inj.1 e))
    rw [beq_eq_false_iff_ne.2 hn, decide_eq_false h]
theorem empty_list : (⟨#[]⟩ : ByteArray).toList = [] := by decide +kernel
theorem toList_nil_iff (p : ByteArray) : p.toList = [] ↔ p.size = 0 := by
  rw [Lib.toList_data, ← List.length_eq_zero_iff, Array.length_toList]
  rfl
theorem toList_inj2 (x y : ByteArray) : x.toList = y.toList ↔ x = y :=
  ⟨fun e => by rw [Lib.toList_data, Lib.toList_data] at e; exact ByteArray.ext (Array.toList_inj.1 e), fun e => by rw [e]⟩
open Given in
theorem kOk (pw salt : ByteArray) (r : Int) (h1 : pw.size ≤ 64) (h2 : salt.size = 16) (h3 : 1 ≤ r) (h4 : r ≤ 64) : derive_Key.f pw salt r = some (Given.keyOf pw salt r, signOf pw salt r, 0) := by
  unfold derive_Key.f
  rw [stretch_f pw salt r 1 h1 h2 h3 h4 (by omega) (by omega), stretch_f pw salt r 2 h1 h2 h3 h4 (by omega) (by omega)]
  have hs : ((stretchW pw salt r.toNat (2 : Int).toNat).size : Int) = 32 := by rw [stretchW_size]; rfl
  simp only [Option.bind_some, if_true]
  rw [if_pos (by omega), if_pos (by omega)]
  rfl
open Given in
theorem kNo (pw salt : ByteArray) (r : Int) (h : ¬ (pw.size ≤ 64 ∧ salt.size = 16 ∧ 1 ≤ r ∧ r ≤ 64)) : derive_Key.f pw salt r = some (⟨#[]⟩, ⟨#[]⟩, 1) := by
  unfold derive_Key.f
  rw [stretch_no pw salt r 1 (fun hh => h ⟨hh.1, hh.2.1, hh.2.2.1, hh.2.2.2.1⟩)]
  rfl
theorem lockedF (s : ByteArray) : seal_Locked.f s = some (Given.begins s 1) := by
  have h1 : ((⟨#[1]⟩ : ByteArray).size : Int) = 1 := rfl
  have hr := Lib.hasPrefix_raw s ⟨#[1]⟩
  unfold seal_Locked.f strings_HasPrefix.f stringslite_HasPrefix.f Given.begins
  have e : Lib.hasPrefix s.data.toList [1] = Lib.hasPrefix s.data.toList (⟨#[1]⟩ : ByteArray).data.toList := rfl
  rw [e, ← hr]
  by_cases h : 1 ≤ s.size
  · rw [h1, if_pos (by omega), if_pos (by omega), if_pos (by omega)]
    simp only [Option.bind_some]
    rw [decide_eq_true (show (⟨#[1]⟩ : ByteArray).size ≤ s.size from h), Bool.true_and]
    rfl
  · rw [h1, if_neg (by omega)]
    simp only [Option.bind_some]
    rw [decide_eq_false (show ¬ (⟨#[1]⟩ : ByteArray).size ≤ s.size from h), Bool.false_and]
theorem size_law (n : Nat) (h : n ≤ 2000) : wrap64 (42 + (wrap64 ((wrap64 (Int.tdiv (wrap64 ((wrap64 (8 + (n : Int))) + 15)) 16)) * 16))) = ((42 + (8 + n + (16 - (8 + n) % 16) % 16) : Nat) : Int) := by
  have e1 : wrap64 (8 + (n : Int)) = 8 + n := Row.wrap64_of_bounds (by omega) (by omega)
  have e2 : wrap64 (8 + (n : Int) + 15) = 8 + n + 15 := Row.wrap64_of_bounds (by omega) (by omega)
  rw [e1, e2, Int.tdiv_eq_ediv_of_nonneg (by omega)]
  have e3 : wrap64 ((8 + (n : Int) + 15) / 16) = (8 + (n : Int) + 15) / 16 := Row.wrap64_of_bounds (by omega) (by omega)
  rw [e3]
  have e4 : wrap64 ((8 + (n : Int) + 15) / 16 * 16) = (8 + (n : Int) + 15) / 16 * 16 := Row.wrap64_of_bounds (by omega) (by omega)
  rw [e4, Row.wrap64_of_bounds (by omega) (by omega)]
  omega
theorem j1_eq (x0 x2 x7 x11 p salt iv : ByteArray) (x12 r : Int) (h : ¬ p.toList = []) (hw : (x7.size : Int) = (wrap64 (42 + (wrap64 ((wrap64 (Int.tdiv (wrap64 ((wrap64 (8 + (x0.size : Int))) + 15)) 16)) * 16))))) :
    hamperlaw23_SealBack.j1 1 x0 x2 x7 x11 x12 false p salt iv r = ((derive_Key.f p salt r).bind fun bt117 => ((derive_Key.f x2 salt r).bind fun bt120 => (if bt117.2.2 = 0 then (if bt120.2.2 = 0 then (if x2.toList = ([] : List UInt8) then (if x12 = 61 then (some (x11.toList == ([] : List UInt8))) else (some false)) else (if bt117.2.1.toList = bt120.2.1.toList then (if x2.toList = p.toList then (if x12 = 0 then (some (x11.toList == x0.toList)) else (some false)) else (some true)) else (if x12 = 61 then (some (x11.toList == ([] : List UInt8))) else (some false)))) else (if x12 = 61 then (some (x11.toList == ([] : List UInt8))) else (some false))) else (some false)))) := by
  show hamperlaw23_SealBack.j1 (0 + 1) x0 x2 x7 x11 x12 false p salt iv r = _
  rw [hamperlaw23_SealBack.j1, if_neg Bool.false_ne_true, if_neg h, if_pos hw]
open Given Cbc in
theorem sealBack_pure (a0 p salt iv : ByteArray) (r : Int) (a2 : ByteArray) (hother : a2.size ≤ 140737488351232) : ∃ k, hamperlaw23_SealBack.f k a0 p salt iv r a2 = some true := by
  refine ⟨2, ?_⟩
  unfold hamperlaw23_SealBack.f
  simp only [law23_works.f, Option.bind_some, if_true]
  by_cases b0 : (a0.size : Int) > 2000
  · rw [if_pos b0]; simp [hamperlaw23_SealBack.j0, law23_works.f]
  by_cases b1 : (p.size : Int) > 500
  · rw [if_neg b0, if_pos b1]; simp [hamperlaw23_SealBack.j0, law23_works.f]
  by_cases b2 : (a2.size : Int) > 500
  · rw [if_neg b0, if_neg b1, decide_eq_true b2]; simp [hamperlaw23_SealBack.j0, law23_works.f]
  rw [if_neg b0, if_neg b1, decide_eq_false b2]
  simp only [hamperlaw23_SealBack.j0, Bool.false_eq_true, if_false]
  unfold seal_Lock.f
  rw [if_neg (by omega)]
  by_cases hp : p.size = 0
  · have hz : ((⟨#[0]⟩ : ByteArray) ++ a0).size = 1 + a0.size := by rw [ByteArray.size_append]; rfl
    have hpe : p.toList = [] := (toList_nil_iff p).2 hp
    have hb : begins (⟨#[0]⟩ ++ a0) 1 = false := begins_one (a := 0) (by unfold begins Lib.hasPrefix; simp) (by decide)
    have hw : wrap64 ((a0.size : Int) + 1) = (((⟨#[0]⟩ : ByteArray) ++ a0).size : Int) := by rw [hz]; unfold wrap64; omega
    rw [if_pos hp]
    simp only [Option.bind_some, if_true, open_zero a0 _ (show a0.size ≤ 1048576 by omega), lockedF, hb, hpe, hamperlaw23_SealBack.j1, hw]
    simp
  · have hpe : ¬ p.toList = [] := fun e => hp ((toList_nil_iff p).1 e)
    have hpe2 : (p.toList != ([] : List UInt8)) = true := by simpa using hpe
    rw [if_neg hp]
    by_cases hi : iv.size = 16
    · rw [if_pos hi]
      by_cases hk : p.size ≤ 64 ∧ salt.size = 16 ∧ 1 ≤ r ∧ r ≤ 64
      · rw [if_pos hk]
        have hk0 := hk
        obtain ⟨hk1, hk2, hk3, hk4⟩ := hk
        have ha : a0.size ≤ 1048576 := by omega
        have hb : begins (lockW a0 p salt iv r) 1 = true := by unfold begins Lib.hasPrefix; rw [lockW_list, lockH]; rfl
        have hsz := lockW_size a0 p salt iv r hk2 hi
        have hfz := frameW_size a0
        have hpadd : pad a0.size = (16 - (8 + a0.size) % 16) % 16 := rfl
        have hw : wrap64 (42 + (wrap64 ((wrap64 (Int.tdiv (wrap64 ((wrap64 (8 + (a0.size : Int))) + 15)) 16)) * 16))) = ((lockW a0 p salt iv r).size : Int) := by
          rw [size_law a0.size (by omega), hsz, hfz, hpadd]
        clear hsz hpadd
        have hol := open_lock a0 p salt iv r ha hk1 hp hk2 hi hk3 hk4
        have hkp := kOk p salt r hk1 hk2 hk3 hk4
        obtain ⟨s, hs0⟩ : ∃ s, s = lockW a0 p salt iv r := ⟨_, rfl⟩
        have hsl : s.data.toList = lockH p salt iv r ++ (sealW (Given.keyOf p salt r) iv a0).data.toList := by rw [hs0]; exact lockW_list _ _ _ _ _
        rw [← hs0] at hb hw hol ⊢
        have e1 : (seal_Lock.f a0 p salt iv r) = some (s, 0) := by rw [hs0]; unfold seal_Lock.f; rw [if_neg (by omega), if_neg hp, if_pos hi, if_pos ⟨hk1, hk2, hk3, hk4⟩]
        clear hs0
        simp only [Option.bind_some, if_true]
        rw [hol]
        simp only [Option.bind_some, if_true]
        rw [lockedF, hb, hpe2]
        simp only [Option.bind_some, bne_self_eq_false]
        have hj := fun x11 x12 => j1_eq a0 a2 s x11 p salt iv x12 r hpe hw.symm
        clear hw
        simp only [hj, hkp, Option.bind_some, if_true]
        have hopen := open_head s p salt iv a2 (sealW (Given.keyOf p salt r) iv a0) r hsl hk2 hi hk3 hk4
        by_cases ho : 64 < a2.size ∨ a2.size = 0
        · rw [if_pos ho] at hopen
          rw [hopen]
          by_cases ho2 : a2.size = 0
          · rw [kOk a2 salt r (by omega) hk2 hk3 hk4]
            simp [(toList_nil_iff a2).2 ho2, empty_list]
          · rw [kNo a2 salt r (by omega)]
            simp [empty_list]
        · rw [if_neg ho] at hopen
          have ho2 : ¬ a2.toList = [] := fun e => ho (.inr ((toList_nil_iff a2).1 e))
          rw [kOk a2 salt r (by omega) hk2 hk3 hk4]
          by_cases hs : signOf a2 salt r = signOf p salt r
          · rw [if_pos hs] at hopen
            have hs2 : (signOf p salt r).toList = (signOf a2 salt r).toList := by rw [hs]
            by_cases he : a2 = p
            · rw [he, hol]
              simp [hpe, empty_list]
            · have he2 : ¬ a2.toList = p.toList := fun e => he ((toList_inj2 _ _).1 e)
              have hbz : (sealW (Given.keyOf p salt r) iv a0).size = (frameW a0).size := sealW_size _ _ _
              have hfm := frameW_mod a0
              have hpd : pad a0.size < 16 := by unfold pad; omega
              rw [open_f _ _ _ (Given.keyOf_size _ _ _) hi (by omega) (by omega) (by omega)] at hopen
              simp only [Option.bind_some] at hopen
              rw [hopen]
              by_cases hc : (openR (Given.keyOf a2 salt r) iv (sealW (Given.keyOf p salt r) iv a0)).2 = 0
              · rw [if_pos hc]; simp [ho2, hs2, he2]
              · rw [if_neg hc]; simp [ho2, hs2, he2]
          · rw [if_neg hs] at hopen
            rw [hopen]
            have hs2 : ¬ (signOf p salt r).toList = (signOf a2 salt r).toList := fun e => hs ((toList_inj2 _ _).1 e).symm
            simp [ho2, hs2, empty_list]
      · rw [if_neg hk]
        simp [empty_list, hpe]
    · rw [if_neg hi]
      simp [empty_list, hpe]
theorem SealBack_walk (a0 p salt iv : ByteArray) (r : Int) (a2 : ByteArray) (w : World) (w0 : a0.size ≤ 140737488351232) (w1 : (Lit.int .i64 r).wf = true) (w2 : a2.size ≤ 140737488351232) :
    Calls Try.prog 8 #[.string a0, .agg #[.string p, .string salt, .string iv, .int .i64 r], .string a2] w fun e w' => e = .returned (.bool true) ∧ Below w.heap.size w w' := by
  obtain ⟨k, h⟩ := sealBack_pure a0 p salt iv r a2 w2
  exact hamperlaw23_SealBack.calls k a0 p salt iv r a2 true w h ⟨rfl⟩

end Go.Proofs.Ytdegeodegjmddaa.Pure
