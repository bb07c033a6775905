/- AesNames: the examples, and the errors. Conditions: none (closed). -/
import Derived.Test.YtfbcgpgpfpnpnaaAesL
namespace Go.Proofs.Ytfbcgpgpfpnpnaa.Given
open Go.RowKit Go.Proofs.YtfbcgpgpfpnpnaaW.PrintWords Go.Proofs.YtfbcgpgpfpnpnaaW.PrintLast Go.Proofs.YtfbcgpgpfpnpnaaW.PrintMore
open Go.Proofs.Ytfbcgpgpfpnpnaa.Row Go.Proofs.Ytfbcgpgpfpnpnaa.Aes Go.Proofs.Ytfbcgpgpfpnpnaa.Row.At
set_option linter.unusedVariables false
set_option linter.unusedSimpArgs false
theorem row_16_0 (w : World) : Calls Try.prog 16 #[.int .i64 16, .int .u8 0] w fun e w' => e = .returned (.string (rowB 16 0)) ∧ Below w.heap.size w w' := row_is 16 0 (by decide +kernel) w
theorem row_32_0 (w : World) : Calls Try.prog 16 #[.int .i64 32, .int .u8 0] w fun e w' => e = .returned (.string (rowB 32 0)) ∧ Below w.heap.size w w' := row_is 32 0 (by decide +kernel) w
theorem row_33_0 (w : World) : Calls Try.prog 16 #[.int .i64 33, .int .u8 0] w fun e w' => e = .returned (.string (rowB 33 0)) ∧ Below w.heap.size w w' := row_is 33 0 (by decide +kernel) w
theorem row_17_0 (w : World) : Calls Try.prog 16 #[.int .i64 17, .int .u8 0] w fun e w' => e = .returned (.string (rowB 17 0)) ∧ Below w.heap.size w w' := row_is 17 0 (by decide +kernel) w
set_option maxHeartbeats 1000000 in
set_option maxRecDepth 100000 in
theorem aesNames_walk (w : World) :
    Calls Try.prog 3 #[] w fun e w' => e = .returned (.bool true) ∧ Below w.heap.size w w' := by
  have HB := Aside0.mk (Below.refl w.heap.size w)
  have z16 : (rowB 16 0).size = 16 := by decide +kernel
  have z32 : (rowB 32 0).size = 32 := by decide +kernel
  have HZ := Aside0.mk (And.intro z16 z32)
  have r2 := encW_decW (rowB 32 0) (rowB 16 0) z32 z16
  have r3 := decW_size (rowB 32 0) (rowB 16 0)
  clear z16 z32
  go_enter Try.func3, Try.ntmps3
  go_wp2_with (first
    | (go_at_call 16; (first | (with_reducible refine (row_16_0 _).mono ?_) | (with_reducible refine (row_32_0 _).mono ?_) | (with_reducible refine (row_33_0 _).mono ?_) | (with_reducible refine (row_17_0 _).mono ?_)); rintro e w' ⟨rfl, hb⟩; first | (have n1 := Aside0.mk (HC.out.go hb); clear HC hb; have HC := n1; clear n1) | (have n1 := Aside0.mk (below_go HB.out hb); clear HB hb; have HB := n1; clear n1))
    | (go_at_call 17; (with_reducible refine (new_ok (rowB 32 0) HZ.out.2 _).mono ?_); rintro e w' ⟨rfl, hc, hb⟩; have HC := Aside0.mk (Has.mk hc (below_go HB.out hb)); clear HB hc hb)
    | (go_at_call 17; (with_reducible refine (new_arg (rowB 33 0) (by decide +kernel) _).mono ?_); rintro e w' ⟨rfl, rfl⟩)
    | (go_at_call 17; (with_reducible refine (new_arg _ (by decide +kernel) _).mono ?_); rintro e w' ⟨rfl, rfl⟩)
    | (go_at_call 18; (with_reducible refine (works_any _).mono ?_); rintro e w' ⟨rfl, hb⟩; have n1 := Aside0.mk (HC.out.go hb); clear HC hb; have HC := n1; clear n1)
    | (go_at_call 14; (with_reducible refine (Encrypt_nil _ _).mono ?_); rintro e w' ⟨rfl, hb⟩; have n1 := Aside0.mk (below_go HB.out hb); clear HB hb; have HB := n1; clear n1)
    | (go_at_call 15; (with_reducible refine (Decrypt_nil _ _).mono ?_); rintro e w' ⟨rfl, hb⟩; have n1 := Aside0.mk (below_go HB.out hb); clear HB hb; have HB := n1; clear n1)
    | (go_at_call 14; (with_reducible refine (Encrypt_w (rowB 32 0) (decW (rowB 32 0) (rowB 16 0)) HZ.out.2 (decW_size _ _) _ _ HC.out.cip).mono ?_); rintro e w' ⟨rfl, hb⟩; have n1 := Aside0.mk (HC.out.go hb); clear HC hb; have HC := n1; clear n1)
    | (go_at_call 15; (with_reducible refine (Decrypt_w (rowB 32 0) (rowB 16 0) HZ.out.2 HZ.out.1 _ _ HC.out.cip).mono ?_); rintro e w' ⟨rfl, hb⟩; have n1 := Aside0.mk (HC.out.go hb); clear HC hb; have HC := n1; clear n1)
    | (go_at_call 15; (with_reducible refine (Decrypt_arg (rowB 17 0) (by decide +kernel) _ _).mono ?_); rintro e w' ⟨rfl, hb⟩; have n1 := Aside0.mk (HC.out.go hb); clear HC hb; have HC := n1; clear n1)
    | (go_at_call 15; (with_reducible refine (Decrypt_arg _ (by decide +kernel) _ _).mono ?_); rintro e w' ⟨rfl, hb⟩; have n1 := Aside0.mk (HC.out.go hb); clear HC hb; have HC := n1; clear n1))
  go_ret
  exact ⟨rfl, HC.out.bel⟩
end Go.Proofs.Ytfbcgpgpfpnpnaa.Given
