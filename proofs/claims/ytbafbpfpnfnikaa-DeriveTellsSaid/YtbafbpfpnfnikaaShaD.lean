/- Turns of 32 bits; contracts of sha.turned and sha.down. Conditions: none. -/
import Derived.Test.YtbafbpfpnfnikaaShaC
namespace Go.Proofs.Ytbafbpfpnfnikaa.Given
open Go.RowKit Go.Proofs.YtbafbpfpnfnikaaW.PrintWords Go.Proofs.YtbafbpfpnfnikaaW.PrintLast Go.Proofs.YtbafbpfpnfnikaaW.PrintMore
open Go.Proofs.Ytbafbpfpnfnikaa.Row Go.Proofs.Ytbafbpfpnfnikaa.Row.At
set_option maxRecDepth 100000
set_option linter.unusedVariables false
set_option linter.unusedSimpArgs false
theorem u32or (a b : UInt32) : bits .or .u32 (a.toNat : Int) (b.toNat : Int) = ((a ||| b).toNat : Int) := by
  rw [u32_or_nat _ _ a.toNat_lt b.toNat_lt, UInt32.toNat_or]
theorem u32and (a b : UInt32) : bits .and .u32 (a.toNat : Int) (b.toNat : Int) = ((a &&& b).toNat : Int) := by
  rw [u32_and_nat _ _ a.toNat_lt b.toNat_lt, UInt32.toNat_and]
theorem u32xor (a b : UInt32) : bits .xor .u32 (a.toNat : Int) (b.toNat : Int) = ((a ^^^ b).toNat : Int) := by
  rw [u32_xor_nat _ _ a.toNat_lt b.toNat_lt, UInt32.toNat_xor]
theorem u32add (a b : UInt32) : IntKind.u32.wrap ((a.toNat : Int) + (b.toNat : Int)) = ((a + b).toNat : Int) := by
  rw [UInt32.toNat_add]
  have h1 := a.toNat_lt
  have h2 := b.toNat_lt
  rw [IntKind.wrap_u32]
  omega
def rotr (x : UInt32) (k : UInt32) : UInt32 := (x <<< (32 - k)) ||| (x >>> k)
theorem rot_7 (x : UInt32) (w : World) : Calls Try.prog 64 #[.int .u32 x.toNat, .int .i64 (-7)] w fun e w' => e = .returned (.int .u32 (rotr x 7).toNat) ∧ w' = w := by
  have hs : bits .and .u64 (IntKind.u64.wrap (-7)) 31 = 25 := by decide +kernel
  go_enter Try.func64, Try.ntmps64
  go_wp2
  go_ret
  refine ⟨?_, rfl⟩
  have e1 : ((x.toNat : Int) * (33554432 : Int) % (4294967296 : Int)) = (((x <<< (32 - 7)).toNat : Nat) : Int) := by
    rw [show (32 - 7 : UInt32) = 25 from by decide, UInt32.toNat_shiftLeft, Nat.shiftLeft_eq]
    simp
  have e2 : ((x.toNat : Int) / (128 : Int)) = (((x >>> 7).toNat : Nat) : Int) := by
    rw [UInt32.toNat_shiftRight, Nat.shiftRight_eq_div_pow]
    simp
  show Ending.returned (Value.int .u32 (bits .or .u32 ((x.toNat : Int) * (33554432 : Int) % (4294967296 : Int)) ((x.toNat : Int) / (128 : Int)))) = _
  rw [e1, e2, u32or]
  rfl
theorem rot_18 (x : UInt32) (w : World) : Calls Try.prog 64 #[.int .u32 x.toNat, .int .i64 (-18)] w fun e w' => e = .returned (.int .u32 (rotr x 18).toNat) ∧ w' = w := by
  have hs : bits .and .u64 (IntKind.u64.wrap (-18)) 31 = 14 := by decide +kernel
  go_enter Try.func64, Try.ntmps64
  go_wp2
  go_ret
  refine ⟨?_, rfl⟩
  have e1 : ((x.toNat : Int) * (16384 : Int) % (4294967296 : Int)) = (((x <<< (32 - 18)).toNat : Nat) : Int) := by
    rw [show (32 - 18 : UInt32) = 14 from by decide, UInt32.toNat_shiftLeft, Nat.shiftLeft_eq]
    simp
  have e2 : ((x.toNat : Int) / (262144 : Int)) = (((x >>> 18).toNat : Nat) : Int) := by
    rw [UInt32.toNat_shiftRight, Nat.shiftRight_eq_div_pow]
    simp
  show Ending.returned (Value.int .u32 (bits .or .u32 ((x.toNat : Int) * (16384 : Int) % (4294967296 : Int)) ((x.toNat : Int) / (262144 : Int)))) = _
  rw [e1, e2, u32or]
  rfl
theorem rot_17 (x : UInt32) (w : World) : Calls Try.prog 64 #[.int .u32 x.toNat, .int .i64 (-17)] w fun e w' => e = .returned (.int .u32 (rotr x 17).toNat) ∧ w' = w := by
  have hs : bits .and .u64 (IntKind.u64.wrap (-17)) 31 = 15 := by decide +kernel
  go_enter Try.func64, Try.ntmps64
  go_wp2
  go_ret
  refine ⟨?_, rfl⟩
  have e1 : ((x.toNat : Int) * (32768 : Int) % (4294967296 : Int)) = (((x <<< (32 - 17)).toNat : Nat) : Int) := by
    rw [show (32 - 17 : UInt32) = 15 from by decide, UInt32.toNat_shiftLeft, Nat.shiftLeft_eq]
    simp
  have e2 : ((x.toNat : Int) / (131072 : Int)) = (((x >>> 17).toNat : Nat) : Int) := by
    rw [UInt32.toNat_shiftRight, Nat.shiftRight_eq_div_pow]
    simp
  show Ending.returned (Value.int .u32 (bits .or .u32 ((x.toNat : Int) * (32768 : Int) % (4294967296 : Int)) ((x.toNat : Int) / (131072 : Int)))) = _
  rw [e1, e2, u32or]
  rfl
theorem rot_19 (x : UInt32) (w : World) : Calls Try.prog 64 #[.int .u32 x.toNat, .int .i64 (-19)] w fun e w' => e = .returned (.int .u32 (rotr x 19).toNat) ∧ w' = w := by
  have hs : bits .and .u64 (IntKind.u64.wrap (-19)) 31 = 13 := by decide +kernel
  go_enter Try.func64, Try.ntmps64
  go_wp2
  go_ret
  refine ⟨?_, rfl⟩
  have e1 : ((x.toNat : Int) * (8192 : Int) % (4294967296 : Int)) = (((x <<< (32 - 19)).toNat : Nat) : Int) := by
    rw [show (32 - 19 : UInt32) = 13 from by decide, UInt32.toNat_shiftLeft, Nat.shiftLeft_eq]
    simp
  have e2 : ((x.toNat : Int) / (524288 : Int)) = (((x >>> 19).toNat : Nat) : Int) := by
    rw [UInt32.toNat_shiftRight, Nat.shiftRight_eq_div_pow]
    simp
  show Ending.returned (Value.int .u32 (bits .or .u32 ((x.toNat : Int) * (8192 : Int) % (4294967296 : Int)) ((x.toNat : Int) / (524288 : Int)))) = _
  rw [e1, e2, u32or]
  rfl
theorem rot_6 (x : UInt32) (w : World) : Calls Try.prog 64 #[.int .u32 x.toNat, .int .i64 (-6)] w fun e w' => e = .returned (.int .u32 (rotr x 6).toNat) ∧ w' = w := by
  have hs : bits .and .u64 (IntKind.u64.wrap (-6)) 31 = 26 := by decide +kernel
  go_enter Try.func64, Try.ntmps64
  go_wp2
  go_ret
  refine ⟨?_, rfl⟩
  have e1 : ((x.toNat : Int) * (67108864 : Int) % (4294967296 : Int)) = (((x <<< (32 - 6)).toNat : Nat) : Int) := by
    rw [show (32 - 6 : UInt32) = 26 from by decide, UInt32.toNat_shiftLeft, Nat.shiftLeft_eq]
    simp
  have e2 : ((x.toNat : Int) / (64 : Int)) = (((x >>> 6).toNat : Nat) : Int) := by
    rw [UInt32.toNat_shiftRight, Nat.shiftRight_eq_div_pow]
    simp
  show Ending.returned (Value.int .u32 (bits .or .u32 ((x.toNat : Int) * (67108864 : Int) % (4294967296 : Int)) ((x.toNat : Int) / (64 : Int)))) = _
  rw [e1, e2, u32or]
  rfl
theorem rot_11 (x : UInt32) (w : World) : Calls Try.prog 64 #[.int .u32 x.toNat, .int .i64 (-11)] w fun e w' => e = .returned (.int .u32 (rotr x 11).toNat) ∧ w' = w := by
  have hs : bits .and .u64 (IntKind.u64.wrap (-11)) 31 = 21 := by decide +kernel
  go_enter Try.func64, Try.ntmps64
  go_wp2
  go_ret
  refine ⟨?_, rfl⟩
  have e1 : ((x.toNat : Int) * (2097152 : Int) % (4294967296 : Int)) = (((x <<< (32 - 11)).toNat : Nat) : Int) := by
    rw [show (32 - 11 : UInt32) = 21 from by decide, UInt32.toNat_shiftLeft, Nat.shiftLeft_eq]
    simp
  have e2 : ((x.toNat : Int) / (2048 : Int)) = (((x >>> 11).toNat : Nat) : Int) := by
    rw [UInt32.toNat_shiftRight, Nat.shiftRight_eq_div_pow]
    simp
  show Ending.returned (Value.int .u32 (bits .or .u32 ((x.toNat : Int) * (2097152 : Int) % (4294967296 : Int)) ((x.toNat : Int) / (2048 : Int)))) = _
  rw [e1, e2, u32or]
  rfl
theorem rot_25 (x : UInt32) (w : World) : Calls Try.prog 64 #[.int .u32 x.toNat, .int .i64 (-25)] w fun e w' => e = .returned (.int .u32 (rotr x 25).toNat) ∧ w' = w := by
  have hs : bits .and .u64 (IntKind.u64.wrap (-25)) 31 = 7 := by decide +kernel
  go_enter Try.func64, Try.ntmps64
  go_wp2
  go_ret
  refine ⟨?_, rfl⟩
  have e1 : ((x.toNat : Int) * (128 : Int) % (4294967296 : Int)) = (((x <<< (32 - 25)).toNat : Nat) : Int) := by
    rw [show (32 - 25 : UInt32) = 7 from by decide, UInt32.toNat_shiftLeft, Nat.shiftLeft_eq]
    simp
  have e2 : ((x.toNat : Int) / (33554432 : Int)) = (((x >>> 25).toNat : Nat) : Int) := by
    rw [UInt32.toNat_shiftRight, Nat.shiftRight_eq_div_pow]
    simp
  show Ending.returned (Value.int .u32 (bits .or .u32 ((x.toNat : Int) * (128 : Int) % (4294967296 : Int)) ((x.toNat : Int) / (33554432 : Int)))) = _
  rw [e1, e2, u32or]
  rfl
theorem rot_2 (x : UInt32) (w : World) : Calls Try.prog 64 #[.int .u32 x.toNat, .int .i64 (-2)] w fun e w' => e = .returned (.int .u32 (rotr x 2).toNat) ∧ w' = w := by
  have hs : bits .and .u64 (IntKind.u64.wrap (-2)) 31 = 30 := by decide +kernel
  go_enter Try.func64, Try.ntmps64
  go_wp2
  go_ret
  refine ⟨?_, rfl⟩
  have e1 : ((x.toNat : Int) * (1073741824 : Int) % (4294967296 : Int)) = (((x <<< (32 - 2)).toNat : Nat) : Int) := by
    rw [show (32 - 2 : UInt32) = 30 from by decide, UInt32.toNat_shiftLeft, Nat.shiftLeft_eq]
    simp
  have e2 : ((x.toNat : Int) / (4 : Int)) = (((x >>> 2).toNat : Nat) : Int) := by
    rw [UInt32.toNat_shiftRight, Nat.shiftRight_eq_div_pow]
    simp
  show Ending.returned (Value.int .u32 (bits .or .u32 ((x.toNat : Int) * (1073741824 : Int) % (4294967296 : Int)) ((x.toNat : Int) / (4 : Int)))) = _
  rw [e1, e2, u32or]
  rfl
theorem rot_13 (x : UInt32) (w : World) : Calls Try.prog 64 #[.int .u32 x.toNat, .int .i64 (-13)] w fun e w' => e = .returned (.int .u32 (rotr x 13).toNat) ∧ w' = w := by
  have hs : bits .and .u64 (IntKind.u64.wrap (-13)) 31 = 19 := by decide +kernel
  go_enter Try.func64, Try.ntmps64
  go_wp2
  go_ret
  refine ⟨?_, rfl⟩
  have e1 : ((x.toNat : Int) * (524288 : Int) % (4294967296 : Int)) = (((x <<< (32 - 13)).toNat : Nat) : Int) := by
    rw [show (32 - 13 : UInt32) = 19 from by decide, UInt32.toNat_shiftLeft, Nat.shiftLeft_eq]
    simp
  have e2 : ((x.toNat : Int) / (8192 : Int)) = (((x >>> 13).toNat : Nat) : Int) := by
    rw [UInt32.toNat_shiftRight, Nat.shiftRight_eq_div_pow]
    simp
  show Ending.returned (Value.int .u32 (bits .or .u32 ((x.toNat : Int) * (524288 : Int) % (4294967296 : Int)) ((x.toNat : Int) / (8192 : Int)))) = _
  rw [e1, e2, u32or]
  rfl
theorem rot_22 (x : UInt32) (w : World) : Calls Try.prog 64 #[.int .u32 x.toNat, .int .i64 (-22)] w fun e w' => e = .returned (.int .u32 (rotr x 22).toNat) ∧ w' = w := by
  have hs : bits .and .u64 (IntKind.u64.wrap (-22)) 31 = 10 := by decide +kernel
  go_enter Try.func64, Try.ntmps64
  go_wp2
  go_ret
  refine ⟨?_, rfl⟩
  have e1 : ((x.toNat : Int) * (1024 : Int) % (4294967296 : Int)) = (((x <<< (32 - 22)).toNat : Nat) : Int) := by
    rw [show (32 - 22 : UInt32) = 10 from by decide, UInt32.toNat_shiftLeft, Nat.shiftLeft_eq]
    simp
  have e2 : ((x.toNat : Int) / (4194304 : Int)) = (((x >>> 22).toNat : Nat) : Int) := by
    rw [UInt32.toNat_shiftRight, Nat.shiftRight_eq_div_pow]
    simp
  show Ending.returned (Value.int .u32 (bits .or .u32 ((x.toNat : Int) * (1024 : Int) % (4294967296 : Int)) ((x.toNat : Int) / (4194304 : Int)))) = _
  rw [e1, e2, u32or]
  rfl
theorem turned_7 (x c : UInt32) (w : World) : Calls Try.prog 55 #[.int .u32 x.toNat, .int .i64 7, .int .i64 18, .int .u32 c.toNat] w fun e w' => e = .returned (.int .u32 (rotr x 7 ^^^ rotr x 18 ^^^ c).toNat) ∧ w' = w := by
  go_enter Try.func55, Try.ntmps55
  go_wp2_with (first | (go_at_call 64; (with_reducible refine (rot_7 x _).mono ?_); rintro e w' ⟨rfl, rfl⟩) | (go_at_call 64; (with_reducible refine (rot_18 x _).mono ?_); rintro e w' ⟨rfl, rfl⟩))
  go_ret
  refine ⟨?_, rfl⟩
  show Ending.returned (Value.int .u32 (bits .xor .u32 (bits .xor .u32 ((rotr x 7).toNat : Int) ((rotr x 18).toNat : Int)) (c.toNat : Int))) = _
  rw [u32xor, u32xor]
theorem turned_17 (x c : UInt32) (w : World) : Calls Try.prog 55 #[.int .u32 x.toNat, .int .i64 17, .int .i64 19, .int .u32 c.toNat] w fun e w' => e = .returned (.int .u32 (rotr x 17 ^^^ rotr x 19 ^^^ c).toNat) ∧ w' = w := by
  go_enter Try.func55, Try.ntmps55
  go_wp2_with (first | (go_at_call 64; (with_reducible refine (rot_17 x _).mono ?_); rintro e w' ⟨rfl, rfl⟩) | (go_at_call 64; (with_reducible refine (rot_19 x _).mono ?_); rintro e w' ⟨rfl, rfl⟩))
  go_ret
  refine ⟨?_, rfl⟩
  show Ending.returned (Value.int .u32 (bits .xor .u32 (bits .xor .u32 ((rotr x 17).toNat : Int) ((rotr x 19).toNat : Int)) (c.toNat : Int))) = _
  rw [u32xor, u32xor]
theorem turned_6 (x c : UInt32) (w : World) : Calls Try.prog 55 #[.int .u32 x.toNat, .int .i64 6, .int .i64 11, .int .u32 c.toNat] w fun e w' => e = .returned (.int .u32 (rotr x 6 ^^^ rotr x 11 ^^^ c).toNat) ∧ w' = w := by
  go_enter Try.func55, Try.ntmps55
  go_wp2_with (first | (go_at_call 64; (with_reducible refine (rot_6 x _).mono ?_); rintro e w' ⟨rfl, rfl⟩) | (go_at_call 64; (with_reducible refine (rot_11 x _).mono ?_); rintro e w' ⟨rfl, rfl⟩))
  go_ret
  refine ⟨?_, rfl⟩
  show Ending.returned (Value.int .u32 (bits .xor .u32 (bits .xor .u32 ((rotr x 6).toNat : Int) ((rotr x 11).toNat : Int)) (c.toNat : Int))) = _
  rw [u32xor, u32xor]
theorem turned_2 (x c : UInt32) (w : World) : Calls Try.prog 55 #[.int .u32 x.toNat, .int .i64 2, .int .i64 13, .int .u32 c.toNat] w fun e w' => e = .returned (.int .u32 (rotr x 2 ^^^ rotr x 13 ^^^ c).toNat) ∧ w' = w := by
  go_enter Try.func55, Try.ntmps55
  go_wp2_with (first | (go_at_call 64; (with_reducible refine (rot_2 x _).mono ?_); rintro e w' ⟨rfl, rfl⟩) | (go_at_call 64; (with_reducible refine (rot_13 x _).mono ?_); rintro e w' ⟨rfl, rfl⟩))
  go_ret
  refine ⟨?_, rfl⟩
  show Ending.returned (Value.int .u32 (bits .xor .u32 (bits .xor .u32 ((rotr x 2).toNat : Int) ((rotr x 13).toNat : Int)) (c.toNat : Int))) = _
  rw [u32xor, u32xor]
theorem down_25 (x : UInt32) (w : World) : Calls Try.prog 56 #[.int .u32 x.toNat, .int .i64 25] w fun e w' => e = .returned (.int .u32 (rotr x 25).toNat) ∧ w' = w := by
  go_enter Try.func56, Try.ntmps56
  go_wp2_with (go_at_call 64; (with_reducible refine (rot_25 x _).mono ?_); rintro e w' ⟨rfl, rfl⟩)
  go_ret
  exact ⟨rfl, rfl⟩
theorem down_22 (x : UInt32) (w : World) : Calls Try.prog 56 #[.int .u32 x.toNat, .int .i64 22] w fun e w' => e = .returned (.int .u32 (rotr x 22).toNat) ∧ w' = w := by
  go_enter Try.func56, Try.ntmps56
  go_wp2_with (go_at_call 64; (with_reducible refine (rot_22 x _).mono ?_); rintro e w' ⟨rfl, rfl⟩)
  go_ret
  exact ⟨rfl, rfl⟩
end Go.Proofs.Ytbafbpfpnfnikaa.Given
