/- The statements of AES: the examples. Conditions: none. -/
import Derived.Test.YtfbcgpgpfpnpnaaAesW
import Derived.Test.YtfbcgpgpfpnpnaaPAesBackx1
import Derived.Lib.Strings
namespace Go.Proofs.Ytfbcgpgpfpnpnaa.Given
open Go.RowKit Go.Proofs.YtfbcgpgpfpnpnaaW.PrintWords Go.Proofs.YtfbcgpgpfpnpnaaW.PrintLast Go.Proofs.YtfbcgpgpfpnpnaaW.PrintMore
open Go.Proofs.Ytfbcgpgpfpnpnaa.Row Go.Proofs.Ytfbcgpgpfpnpnaa.Aes Go.Proofs.Ytfbcgpgpfpnpnaa.Row.At
set_option linter.unusedVariables false
set_option linter.unusedSimpArgs false

/-- n bytes, each so much more than the one ahead of it. -/
def rowB (n by_ : Nat) : ByteArray := ⟨((List.range n).map fun i => UInt8.ofNat (by_ * i)).toArray⟩
theorem row_is (n by_ : Nat) (h : PAesBack.hamperlaw09_row.f 50 n by_ = some (rowB n by_)) (w : World) :
    Calls Try.prog 16 #[.int .i64 n, .int .u8 by_] w fun e w' => e = .returned (.string (rowB n by_)) ∧ Below w.heap.size w w' :=
  PAesBack.hamperlaw09_row.calls 50 n by_ (rowB n by_) w h
theorem row_32_1 (w : World) : Calls Try.prog 16 #[.int .i64 32, .int .u8 1] w fun e w' => e = .returned (.string (rowB 32 1)) ∧ Below w.heap.size w w' := row_is 32 1 (by decide +kernel) w
theorem row_31_1 (w : World) : Calls Try.prog 16 #[.int .i64 31, .int .u8 1] w fun e w' => e = .returned (.string (rowB 31 1)) ∧ Below w.heap.size w w' := row_is 31 1 (by decide +kernel) w
theorem row_16_17 (w : World) : Calls Try.prog 16 #[.int .i64 16, .int .u8 17] w fun e w' => e = .returned (.string (rowB 16 17)) ∧ Below w.heap.size w w' := row_is 16 17 (by decide +kernel) w
theorem row_15_17 (w : World) : Calls Try.prog 16 #[.int .i64 15, .int .u8 17] w fun e w' => e = .returned (.string (rowB 15 17)) ∧ Below w.heap.size w w' := row_is 15 17 (by decide +kernel) w

def key1 : List UInt8 := (List.range 32).map UInt8.ofNat
set_option maxRecDepth 100000 in
theorem works_any (w : World) : Calls Try.prog 18 #[] w fun e w' => e = .returned (.bool true) ∧ Below w.heap.size w w' := by
  have HB := Aside0.mk (Below.refl w.heap.size w)
  have k1 : Aside0 ((rowB 32 1).data.toList = key1) := ⟨by decide +kernel⟩
  have k2 : Aside0 ((rowB 16 17).data.toList = (List.range 16).map (fun i => UInt8.ofNat (17 * i))) := ⟨by decide +kernel⟩
  have ex1 : Aside0 (encS (rowB 32 1).data.toList (rowB 16 17).data.toList = [0x8e, 0xa2, 0xb7, 0xca, 0x51, 0x67, 0x45, 0xbf, 0xea, 0xfc, 0x49, 0x90, 0x4b, 0x49, 0x60, 0x89]) := ⟨by rw [k1.out, k2.out]; exact example_enc⟩
  go_enter Try.func18, Try.ntmps18
  go_wp2_with (first
    | (go_at_call 16; (first | (with_reducible refine (row_32_1 _).mono ?_) | (with_reducible refine (row_31_1 _).mono ?_) | (with_reducible refine (row_16_17 _).mono ?_) | (with_reducible refine (row_15_17 _).mono ?_)); rintro e w' ⟨rfl, hb⟩; first | (have n1 := Aside0.mk (HC.out.go hb); clear HC hb; have HC := n1; clear n1) | (have n1 := Aside0.mk (below_go HB.out hb); clear HB hb; have HB := n1; clear n1))
    | (go_at_call 17; (with_reducible refine (new_ok (rowB 32 1) (by decide +kernel) _).mono ?_); rintro e w' ⟨rfl, hc, hb⟩; have HC := Aside0.mk (Has.mk hc (below_go HB.out hb)); clear HB hc hb)
    | (go_at_call 17; (with_reducible refine (new_arg (rowB 31 1) (by decide +kernel) _).mono ?_); rintro e w' ⟨rfl, rfl⟩)
    | (go_at_call 14; (with_reducible refine (Encrypt_ok (rowB 32 1).data.toList (rowB 16 17) (by decide +kernel) (by decide +kernel) _ _ HC.out.cip).mono ?_); rintro e w' ⟨rfl, hb⟩; have n1 := Aside0.mk (HC.out.go hb); clear HC hb; have HC := n1; clear n1; rw [ex1.out])
    | (go_at_call 14; (with_reducible refine (Encrypt_arg (rowB 15 17) (by decide +kernel) _ _).mono ?_); rintro e w' ⟨rfl, hb⟩; have n1 := Aside0.mk (HC.out.go hb); clear HC hb; have HC := n1; clear n1))
  go_ret
  exact ⟨rfl, HC.out.bel⟩
end Go.Proofs.Ytfbcgpgpfpnpnaa.Given
