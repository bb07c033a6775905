/- The contract of cbc.unframe. Conditions: at least 8 bytes, fewer than 2^47. -/
import Derived.Test.YtfbcgpgpfpnpnaaCbcA
import Derived.Test.YtfbcgpgpfpnpnaaCbcX
namespace Go.Proofs.Ytfbcgpgpfpnpnaa.Given
open Go.RowKit Go.Proofs.YtfbcgpgpfpnpnaaW.PrintWords Go.Proofs.YtfbcgpgpfpnpnaaW.PrintLast Go.Proofs.YtfbcgpgpfpnpnaaW.PrintMore
open Go.Proofs.Ytfbcgpgpfpnpnaa.Row Go.Proofs.Ytfbcgpgpfpnpnaa.Aes Go.Proofs.Ytfbcgpgpfpnpnaa.Row.At Go.Proofs.Ytfbcgpgpfpnpnaa.Cbc
set_option maxRecDepth 100000
set_option linter.unusedVariables false
set_option linter.unusedSimpArgs false
/-- bytes as a number, the highest first -/
def numL (l : List UInt8) : Nat := l.foldl (fun n b => n * 256 + b.toNat) 0
theorem numL_snoc (l : List UInt8) (b : UInt8) : numL (l ++ [b]) = numL l * 256 + b.toNat := by simp [numL]
theorem numF_lt (l : List UInt8) : ∀ n, l.foldl (fun n b => n * 256 + b.toNat) n < (n + 1) * 256 ^ l.length := by
  induction l with
  | nil => intro n; simp
  | cons b l ih =>
    intro n
    rw [List.foldl_cons, List.length_cons, Nat.pow_succ']
    have h1 := ih (n * 256 + b.toNat)
    have h2 := b.toNat_lt
    have h3 : (n * 256 + b.toNat + 1) * 256 ^ l.length ≤ ((n + 1) * 256) * 256 ^ l.length := Nat.mul_le_mul_right _ (by omega)
    rw [← Nat.mul_assoc]
    omega
theorem numL_lt (l : List UInt8) : numL l < 256 ^ l.length := by
  have := numF_lt l 0
  simpa [numL] using this
theorem shift_in (n b : Nat) (hn : n < 256 ^ 7) (hb : b < 256) : bits .or .u64 (IntKind.u64.wrap ((n : Int) * 256)) (IntKind.u64.wrap (b : Int)) = ((n * 256 + b : Nat) : Int) := by
  have e1 : IntKind.u64.wrap ((n : Int) * 256) = (n : Int) * 256 := by rw [IntKind.wrap_u64]; omega
  have e2 : IntKind.u64.wrap (b : Int) = (b : Int) := by rw [IntKind.wrap_u64]; omega
  rw [e1, e2, bits_join .u64 64 (by decide) (fun n h0 h1 => by rw [IntKind.wrap_u64]; omega) 8 ((n : Int) * 256) b (by omega) (by omega) (by omega) (by omega) (by omega) (by omega)]
  omega
/-- What unframe tells. -/
def unframeR (s : ByteArray) : ByteArray × Bool :=
  if s.size - 8 < numL (s.data.toList.take 8) ∨ 1048576 < numL (s.data.toList.take 8) then (⟨#[]⟩, false)
  else (s.extract 8 (8 + numL (s.data.toList.take 8)), (frameW (s.extract 8 (8 + numL (s.data.toList.take 8)))).toList == s.toList)
set_option maxHeartbeats 1000000 in
theorem unframe_any (s : ByteArray) (w : World) (h8 : 8 ≤ s.size) (hs : s.size ≤ 140737488351232) :
    Calls Try.prog 48 #[.string s] w fun e w' => e = .returned (.tuple #[.string (unframeR s).1, .bool (unframeR s).2]) ∧ Below w.heap.size w w' := by
  have H8 := Aside0.mk h8
  have HS := Aside0.mk hs
  clear h8 hs
  go_enter Try.func48, Try.ntmps48
  go_wp2
  go_loopg [4, 7] 8 (fun gg s4 s7 wx => ∃ i : Nat, i + gg = 8 ∧ s4 = .int .u64 (numL (s.data.toList.take i)) ∧ s7 = .int .i64 i ∧ w = wx)
  case atStart => exact ⟨0, by omega, rfl, rfl, rfl⟩
  case round =>
    obtain ⟨i, hi, rfl, rfl, rfl⟩ := hrel
    cases gk with
    | zero =>
      have hi8 : i = 8 := by omega
      subst hi8
      obtain ⟨n, hn⟩ : ∃ n, n = numL (s.data.toList.take 8) := ⟨_, rfl⟩
      rw [← hn]
      have HN := Aside0.mk hn
      have hlt : n < 18446744073709551616 := by
        have := numL_lt (s.data.toList.take 8)
        have h8 := H8.out
        rw [← hn, List.length_take, toList_length] at this
        have e : min 8 s.size = 8 := by omega
        rw [e] at this
        exact this
      clear hn
      have hsub : wrap64 ((s.size : Int) - 8) = (s.size : Int) - 8 := by have := H8.out; have := HS.out; exact wrap64_of_bounds (by omega) (by omega)
      have hu : IntKind.u64.wrap ((s.size : Int) - 8) = (s.size : Int) - 8 := by have := H8.out; have := HS.out; rw [IntKind.wrap_u64]; omega
      by_cases hb : s.size - 8 < n
      · have hc : (s.size : Int) - 8 < (n : Int) := by have := H8.out; omega
        have hr : unframeR s = (⟨#[]⟩, false) := by unfold unframeR; rw [← HN.out, if_pos (.inl hb)]
        have HR := Aside0.mk hr
        clear hb hr hlt
        go_wp2
        go_ret2
        refine ⟨?_, Below.refl _ _⟩
        rw [HR.out]
        rfl
      · by_cases hb2 : 1048576 < n
        · have hc : ¬ ((s.size : Int) - 8 < (n : Int)) := by have := H8.out; omega
          have hc2 : (1048576 : Int) < (n : Int) := by omega
          have hr : unframeR s = (⟨#[]⟩, false) := by unfold unframeR; rw [← HN.out, if_pos (.inr hb2)]
          have HR := Aside0.mk hr
          clear hb hb2 hr hlt
          go_wp2
          go_ret2
          refine ⟨?_, Below.refl _ _⟩
          rw [HR.out]
          rfl
        · have hc : ¬ ((s.size : Int) - 8 < (n : Int)) := by have := H8.out; omega
          have hc2 : ¬ ((1048576 : Int) < (n : Int)) := by omega
          have hr : unframeR s = (s.extract 8 (8 + n), (frameW (s.extract 8 (8 + n))).toList == s.toList) := by unfold unframeR; rw [← HN.out, if_neg (by omega)]
          have HR := Aside0.mk hr
          have hw : wrap64 (n : Int) = (n : Int) := wrap64_of_bounds (by omega) (by omega)
          have hw2 : wrap64 (8 + (n : Int)) = 8 + (n : Int) := wrap64_of_bounds (by omega) (by omega)
          have hle : (8 : Int) + n ≤ s.size := by omega
          have HX : Aside0 ((s.extract 8 (8 + n)).size ≤ 140737488351232) := ⟨by rw [ByteArray.size_extract]; have := HS.out; omega⟩
          clear hb hb2 hr hlt
          go_wp2_with (go_at_call 26; refine (Frame_any _ _ HX.out).mono ?_; rintro e w2 ⟨rfl, hb⟩; have HB := Aside0.mk hb; clear hb)
          go_ret2
          refine ⟨?_, HB.out⟩
          rw [HR.out]
          rfl
    | succ gk =>
      have hi8 : (i : Int) < 8 := by omega
      have hix := index_str s i (by have := H8.out; omega) w
      go_wp2
      go_roundg gk
      case measure => omega
      case rel =>
        refine ⟨i + 1, by omega, ?_, by go_num, rfl⟩
        have hlen : i < s.data.toList.length := by rw [toList_length]; have := H8.out; omega
        have htake : s.data.toList.take (i + 1) = s.data.toList.take i ++ [gb s.data.toList i] := by
          rw [← List.take_append_getElem hlen]; simp only [gb, List.getD_eq_getElem?_getD, List.getElem?_eq_getElem hlen, Option.getD_some]
        have hnl : numL (s.data.toList.take i) < 256 ^ 7 := by
          have := numL_lt (s.data.toList.take i)
          rw [List.length_take] at this
          exact Nat.lt_of_lt_of_le this (Nat.pow_le_pow_right (by decide) (by omega))
        rw [htake, numL_snoc, shift_in _ _ hnl (gb s.data.toList i).toNat_lt]
end Go.Proofs.Ytfbcgpgpfpnpnaa.Given
