/- The contract of hamperlaw07.many. Conditions: at most 2^21 bytes. -/
import Derived.Test.YtbafbpfpnfnikaaShaW
namespace Go.Proofs.Ytbafbpfpnfnikaa.Given
open Go.RowKit Go.Proofs.YtbafbpfpnfnikaaW.PrintWords Go.Proofs.YtbafbpfpnfnikaaW.PrintLast Go.Proofs.YtbafbpfpnfnikaaW.PrintMore
open Go.Proofs.Ytbafbpfpnfnikaa.Row Go.Proofs.Ytbafbpfpnfnikaa.Row.At
set_option maxRecDepth 100000
set_option linter.unusedVariables false
set_option linter.unusedSimpArgs false
/-- a byte, so often -/
def manyW (n : Nat) (c : UInt8) : ByteArray := ⟨(List.replicate n c).toArray⟩
theorem manyW_size (n : Nat) (c : UInt8) : (manyW n c).size = n := by simp [manyW, ByteArray.size]
theorem madeN (W : World) (n : Nat) : At (W.alloc (.cells (madeCells #[.int .u8 0] n) 5 (0, 0))) W.heap.size 5 (b8s (List.replicate n 0)) := by
  have e : madeCells #[.int .u8 0] n = (b8s (List.replicate n 0)).toArray := by
    have := toList_madeCells_one (.int .u8 0) n
    rw [← Array.toArray_toList (xs := madeCells #[.int .u8 0] n), this]
    simp [b8s, b8]
  rw [e]
  exact At.new W _ _
def manyN (n : Nat) (c : UInt8) (i : Nat) : List UInt8 := List.replicate i c ++ List.replicate (n - i) 0
theorem manyN_length (n : Nat) (c : UInt8) (i : Nat) (h : i ≤ n) : (manyN n c i).length = n := by simp [manyN]; omega
theorem manyN_set (n : Nat) (c : UInt8) (i : Nat) (h : i < n) : (manyN n c i).set i c = manyN n c (i + 1) := by
  have e : List.replicate (n - i) (0 : UInt8) = 0 :: List.replicate (n - (i + 1)) 0 := by rw [← List.replicate_succ]; congr 1; omega
  rw [manyN, e, List.set_append_right _ _ (by simp), List.length_replicate, Nat.sub_self, List.set_cons_zero, manyN, List.replicate_succ', List.append_assoc]
  rfl
set_option maxHeartbeats 1000000 in
theorem many_any (n : Nat) (c : UInt8) (hn : n ≤ 2097152) (w : World) :
    Calls Try.prog 23 #[.int .i64 n, .int .u8 c.toNat] w fun e w' => e = .returned (.string (manyW n c)) ∧ Below w.heap.size w w' := by
  have HN := Aside0.mk hn
  have hmk : ∀ W : World, (Instr.makeSlice 37 (.int .i64 n) (.int .i64 n)).run Try.prog W = .ok (.slice (some ⟨W.heap.size, 0, none⟩) n n) (W.alloc (.cells (madeCells #[.int .u8 0] n) 5)) := print_make (P := Try.prog) 37 5 .u8 1 Try.underlying37 (by kernel_rfl) (by decide) n (by omega)
  obtain ⟨C, hC⟩ : ∃ C, C = Obj.cells (madeCells #[.int .u8 0] n) 5 (0, 0) := ⟨_, rfl⟩
  have HG0 : Aside0 (At (w.alloc C) w.heap.size 5 (b8s (manyN n c 0))) := ⟨by rw [hC, manyN]; simpa using madeN w n⟩
  rw [← hC] at hmk
  clear hn hC
  go_enter Try.func23, Try.ntmps23
  go_wp2
  have HB0 : Aside0 (Below w.heap.size w (w.alloc C)) := ⟨(Below.refl _ w).alloc (Nat.le_refl _) _⟩
  go_loopg [6] n (fun gg s6 wr => ∃ i : Nat, i + gg = n ∧ s6 = .int .i64 i ∧ At wr w.heap.size 5 (b8s (manyN n c i)) ∧ Below w.heap.size w wr)
  case atStart => exact ⟨0, by omega, rfl, HG0.out, HB0.out⟩
  case round =>
    obtain ⟨i, hi, rfl, hga, hba⟩ := hrel
    have HG := Aside0.mk hga; have HB := Aside0.mk hba
    clear hga hba HG0 HB0
    cases gk with
    | zero =>
      have hin : i = n := by omega
      subst hin
      have hlt : ¬ ((i : Int) < (i : Int)) := by omega
      have hconv : (convert 37 9 (.slice (some ⟨w.heap.size, 0, none⟩) i i)).run Try.prog wr = .ok (.string (manyW i c)) wr := by
        have := run_convert_bytes_back (P := Try.prog) wr 37 9 5 ⟨w.heap.size, 0, none⟩ i (manyN i c i) Try.underlying37 Try.underlying5 Try.underlying9 (fun j hj => by
          rw [Addr.add_mid, Nat.zero_add, HG.out.cell8 j hj]
          simp [gb, List.getD_eq_getElem?_getD, hj])
        rw [manyN_length i c i (Nat.le_refl _)] at this
        have e : manyN i c i = List.replicate i c := by simp [manyN]
        rw [e] at this
        exact this
      go_wp2
      go_ret
      exact ⟨rfl, HB.out⟩
    | succ gk =>
      have hlt : (i : Int) < (n : Int) := by omega
      have c1 := HG.out.cell8 i (by rw [manyN_length _ _ _ (by omega)]; omega)
      have f1 := HG.out.frozen i
      go_wp2
      go_roundg gk
      case measure => omega
      case rel =>
        refine ⟨i + 1, by omega, by rw [wrap64_of_bounds (by omega) (by have := HN.out; omega)]; rfl, ?_, HB.out.setCell (Nat.le_refl _) _⟩
        have h2 := HG.out.set8 i c
        rw [manyN_set n c i (by omega)] at h2
        exact h2
end Go.Proofs.Ytbafbpfpnfnikaa.Given
