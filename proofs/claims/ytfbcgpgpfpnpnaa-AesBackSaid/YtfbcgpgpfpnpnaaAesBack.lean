/- AesBack: deciphering undoes enciphering, and the other way round; unlike blocks become unlike ones. Conditions: none. -/
import Derived.Test.YtfbcgpgpfpnpnaaAesL
namespace Go.Proofs.Ytfbcgpgpfpnpnaa.Given
open Go.RowKit Go.Proofs.YtfbcgpgpfpnpnaaW.PrintWords Go.Proofs.YtfbcgpgpfpnpnaaW.PrintLast Go.Proofs.YtfbcgpgpfpnpnaaW.PrintMore
open Go.Proofs.Ytfbcgpgpfpnpnaa.Row Go.Proofs.Ytfbcgpgpfpnpnaa.Aes Go.Proofs.Ytfbcgpgpfpnpnaa.Row.At
set_option linter.unusedVariables false
set_option linter.unusedSimpArgs false
set_option maxHeartbeats 1000000 in
theorem aesBack_walk (a0 a1 a2 : ByteArray) (w : World) (w0 : a0.size ≤ 140737488351232) (w1 : a1.size ≤ 140737488351232) (w2 : a2.size ≤ 140737488351232) :
    Calls Try.prog 5 #[.string a0, .string a1, .string a2] w fun e w' => e = .returned (.bool true) ∧ Below w.heap.size w w' := by
  have HB := Aside0.mk (Below.refl w.heap.size w)
  clear w0 w1 w2
  by_cases hk : a0.size = 32
  · have HK := Aside0.mk hk
    clear hk
    by_cases hab : a1.size = 16 ∧ a2.size = 16
    · have HA := Aside0.mk hab.1
      have HA2 := Aside0.mk hab.2
      clear hab
      have s1 : ((a1.size : Int) != 16) = false := by rw [HA.out]; rfl
      have s2 : ((a2.size : Int) != 16) = false := by rw [HA2.out]; rfl
      have r1 := decW_encW a0 a1 HK.out HA.out
      have r2 := encW_decW a0 a1 HK.out HA.out
      have r3 := encW_size a0 a1
      have r4 := beq_both (encW a0) (decW a0) a1 a2 r1 (decW_encW a0 a2 HK.out HA2.out)
      have r5 := beq_both (decW a0) (encW a0) a1 a2 r2 (encW_decW a0 a2 HK.out HA2.out)
      go_enter Try.func5, Try.ntmps5
      go_wp2_with (first
        | (go_at_call 17; (with_reducible refine (new_ok a0 HK.out _).mono ?_); rintro e w' ⟨rfl, hc, hb⟩; have HC := Aside0.mk (Has.mk hc (below_go HB.out hb)); clear HB hc hb)
        | (go_at_call 18; (with_reducible refine (works_any _).mono ?_); rintro e w' ⟨rfl, hb⟩; have n1 := Aside0.mk (HC.out.go hb); clear HC hb; have HC := n1; clear n1)
        | (go_at_call 14; (first | (with_reducible refine (Encrypt_w a0 a1 HK.out HA.out _ _ HC.out.cip).mono ?_) | (with_reducible refine (Encrypt_w a0 a2 HK.out HA2.out _ _ HC.out.cip).mono ?_) | (with_reducible refine (Encrypt_w a0 _ HK.out (decW_size _ _) _ _ HC.out.cip).mono ?_)); rintro e w' ⟨rfl, hb⟩; have n1 := Aside0.mk (HC.out.go hb); clear HC hb; have HC := n1; clear n1)
        | (go_at_call 15; (first | (with_reducible refine (Decrypt_w a0 a1 HK.out HA.out _ _ HC.out.cip).mono ?_) | (with_reducible refine (Decrypt_w a0 a2 HK.out HA2.out _ _ HC.out.cip).mono ?_) | (with_reducible refine (Decrypt_w a0 _ HK.out (encW_size _ _) _ _ HC.out.cip).mono ?_)); rintro e w' ⟨rfl, hb⟩; have n1 := Aside0.mk (HC.out.go hb); clear HC hb; have HC := n1; clear n1))
      go_ret
      exact ⟨rfl, HC.out.bel⟩
    · have hd : (((a1.size : Int) != 16) || ((a2.size : Int) != 16)) = true := by
        rw [Bool.or_eq_true, bne_iff_ne, bne_iff_ne]
        omega
      have HD := Aside0.mk hd
      clear hab hd
      go_enter Try.func5, Try.ntmps5
      cases hs1 : ((a1.size : Int) != 16)
      · have hs2 : ((a2.size : Int) != 16) = true := by
          have := HD.out
          rw [hs1] at this
          simpa using this
        go_wp2_with (first
          | (go_at_call 17; (with_reducible refine (new_ok a0 HK.out _).mono ?_); rintro e w' ⟨rfl, hc, hb⟩; have HC := Aside0.mk (Has.mk hc (below_go HB.out hb)); clear HB hc hb)
          | (go_at_call 18; (with_reducible refine (works_any _).mono ?_); rintro e w' ⟨rfl, hb⟩; have n1 := Aside0.mk (HC.out.go hb); clear HC hb; have HC := n1; clear n1))
        go_ret
        exact ⟨rfl, HC.out.bel⟩
      · go_wp2_with (first
          | (go_at_call 17; (with_reducible refine (new_ok a0 HK.out _).mono ?_); rintro e w' ⟨rfl, hc, hb⟩; have HC := Aside0.mk (Has.mk hc (below_go HB.out hb)); clear HB hc hb)
          | (go_at_call 18; (with_reducible refine (works_any _).mono ?_); rintro e w' ⟨rfl, hb⟩; have n1 := Aside0.mk (HC.out.go hb); clear HC hb; have HC := n1; clear n1))
        go_ret
        exact ⟨rfl, HC.out.bel⟩
  · have HK := Aside0.mk hk
    clear hk
    go_enter Try.func5, Try.ntmps5
    go_wp2_with (first
      | (go_at_call 17; (with_reducible refine (new_arg a0 HK.out _).mono ?_); rintro e w' ⟨rfl, rfl⟩)
      | (go_at_call 18; (with_reducible refine (works_any _).mono ?_); rintro e w' ⟨rfl, hb⟩; have n1 := Aside0.mk (below_go HB.out hb); clear HB hb; have HB := n1; clear n1))
    go_ret
    exact ⟨rfl, HB.out⟩
end Go.Proofs.Ytfbcgpgpfpnpnaa.Given
