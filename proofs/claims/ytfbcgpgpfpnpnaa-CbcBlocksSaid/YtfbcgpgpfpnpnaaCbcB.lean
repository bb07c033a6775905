/- The contract of cbc.blocks: the iterator over a text's blocks of 16 bytes. Conditions: as each theorem names them. -/
import Derived.Test.YtfbcgpgpfpnpnaaCbcS
import Derived.Test.YtfbcgpgpfpnpnaaBld
import Derived.Test.YtfbcgpgpfpnpnaaRange
import Derived.Sort.LoopGhostIn
import Derived.Sort.QuietIn
namespace Go.Proofs.Ytfbcgpgpfpnpnaa.Given
open Go.RowKit Go.Proofs.YtfbcgpgpfpnpnaaW.PrintWords Go.Proofs.YtfbcgpgpfpnpnaaW.PrintLast Go.Proofs.YtfbcgpgpfpnpnaaW.PrintMore
open Go.Proofs.Ytfbcgpgpfpnpnaa.Row Go.Proofs.Ytfbcgpgpfpnpnaa.Aes Go.Proofs.Ytfbcgpgpfpnpnaa.Row.At Go.Proofs.Ytfbcgpgpfpnpnaa.Cbc Go.Proofs.Ytfbcgpgpfpnpnaa.Range
set_option maxRecDepth 100000
set_option linter.unusedVariables false
set_option linter.unusedSimpArgs false
attribute [local go_sem] Oper.semAt_some
theorem callsIn_round {n l : Nat} {P : Program} {f : FuncId} {args : Array Value} {w : World} {R : Ending → World → Prop} (h : Calls P f args w R) : CallsIn (Fence.wide.inRound l) n P f args w R := callsIn_wide.2 h

theorem blocks_any (s : ByteArray) (w : World) :
    Calls Try.prog 42 #[.string s] w fun e w' => e = .returned (.func (.func 55) #[] #[.pointer (some ⟨w.heap.size, 0, none⟩)]) ∧ w' = w.alloc (.cells #[.string s] 9) := by
  go_enter Try.func42, Try.ntmps42
  go_wp2
  go_ret
  exact ⟨rfl, rfl⟩

/-- What a round keeps of the iterator's own variable. -/
def KpB (B Bl : Nat) (X Y : World) : Prop := Below B X Y ∧ Y.heap[Bl]? = X.heap[Bl]?

set_option maxHeartbeats 1000000 in
theorem blocks_in (n L Bl B : Nat) (s : ByteArray) (J : List ByteArray → World → Prop)
    (hY : ∀ pre x W, J pre W → (∃ suf, blocksOf s = pre ++ x :: suf) → YieldAt Fence.wide (n - 1) Try.prog L #[.string x] W fun e W' => e = .returned (.bool true) ∧ J (pre ++ [x]) W' ∧ KpB B Bl W W')
    (W : World) (hs : s.size ≤ 140737488355328) (hv : At W Bl 9 [.string s]) (h0 : J [] W) :
    CallsIn Fence.wide n Try.prog 55 #[.func (.yield L) #[] #[], .pointer (some ⟨Bl, 0, none⟩)] W fun e W' => (∃ v, e = .returned v) ∧ J (blocksOf s) W' := by
  refine callsIn_of_wp Try.func55 rfl trivial ?_ rfl
  simp only [Try.ntmps55, List.size_toArray, List.length_cons, List.length_nil, Nat.reduceAdd, Nat.reduceSub, Array.replicate_succ, Array.replicate_zero, List.push_toArray, List.append_toArray, List.nil_append, List.cons_append]
  have HY := Aside0.mk hY
  have HS := Aside0.mk hs
  clear hY hs
  gi_wp2
  gi_loopg [3] (s.size / 16) (fun gg s3 wr => ∃ k : Nat, k + gg = s.size / 16 ∧ s3 = .int .i64 ((16 * k : Nat) : Int) ∧ At wr Bl 9 [.string s] ∧ J ((blocksOf s).take k) wr)
  case atStart => exact ⟨0, by omega, rfl, hv, by simpa using h0⟩
  case round =>
    obtain ⟨k, hk, rfl, ha, hj⟩ := hrel
    have HA := Aside0.mk ha; have HJ := Aside0.mk hj
    clear ha hj hv h0
    have hcell := HA.out.cell 0 _ rfl
    have h1 := HS.out
    have hwr : wrap64 (16 * (k : Int) + 16) = 16 * (k : Int) + 16 := wrap64_of_bounds (by omega) (by omega)
    cases gk with
    | zero =>
      have hle : ¬ (16 * (k : Int) + 16 ≤ (s.size : Int)) := by omega
      clear h1
      gi_wp2
      go_end0
      refine ⟨⟨_, rfl⟩, ?_⟩
      have e : (blocksOf s).take k = blocksOf s := List.take_of_length_le (by rw [blocksOf_length]; omega)
      rw [← e]
      exact HJ.out
    | succ gk =>
      have hle : 16 * (k : Int) + 16 ≤ (s.size : Int) := by omega
      clear h1
      have hlen : k < (blocksOf s).length := by rw [blocksOf_length]; omega
      have hget : (blocksOf s)[k] = s.extract (16 * k) (16 * k + 16) := by simp [blocksOf]
      have hsplit : blocksOf s = (blocksOf s).take k ++ s.extract (16 * k) (16 * k + 16) :: (blocksOf s).drop (k + 1) := by
        rw [← hget, List.getElem_cons_drop, List.take_append_drop]
      have htake : (blocksOf s).take (k + 1) = (blocksOf s).take k ++ [s.extract (16 * k) (16 * k + 16)] := by
        rw [← hget, List.take_append_getElem]
      obtain ⟨fn, tmps, assign, body, hy, hR⟩ := HY.out ((blocksOf s).take k) (s.extract (16 * k) (16 * k + 16)) wr HJ.out ⟨_, hsplit⟩
      have HT := Aside0.mk htake
      clear hsplit hget hlen htake
      gi_wp2
      refine ⟨fun h => (by simp [Fence.wide] at h), hR.mono ?_⟩
      rintro e W3 ⟨rfl, hJ3, hb3, hv3⟩
      have HA3 : Aside0 (At W3 Bl 9 [.string s]) := ⟨⟨hv3.trans HA.out.heap⟩⟩
      have HJ3 := Aside0.mk hJ3
      clear hJ3 hb3 hv3 hcell hR hy
      gi_wp2
      go_roundg gk
      case measure => omega
      case rel => exact ⟨k + 1, by omega, by rw [hwr]; congr 1, HA3.out, by rw [HT.out]; exact HJ3.out⟩
end Go.Proofs.Ytfbcgpgpfpnpnaa.Given
