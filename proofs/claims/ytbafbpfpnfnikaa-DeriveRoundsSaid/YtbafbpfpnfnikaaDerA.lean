/- The contract of derive's texts: the iterator over the rounds' texts. Conditions: as each theorem names them. -/
import Derived.Test.YtbafbpfpnfnikaaShaH
import Derived.Test.YtbafbpfpnfnikaaRange
import Derived.Sort.LoopGhostIn
import Derived.Sort.QuietIn
import Derived.Shelf.RegionOpen
namespace Go.Proofs.Ytbafbpfpnfnikaa.Given
open Go.RowKit Go.Proofs.YtbafbpfpnfnikaaW.PrintWords Go.Proofs.YtbafbpfpnfnikaaW.PrintLast Go.Proofs.YtbafbpfpnfnikaaW.PrintMore
open Go.Proofs.Ytbafbpfpnfnikaa.Row Go.Proofs.Ytbafbpfpnfnikaa.Row.At Go.Proofs.Ytbafbpfpnfnikaa.Range
set_option maxRecDepth 100000
set_option linter.unusedVariables false
set_option linter.unusedSimpArgs false
attribute [local go_sem] Oper.semAt_some
theorem callsIn_roundD {n l : Nat} {P : Program} {f : FuncId} {args : Array Value} {w : World} {R : Ending → World → Prop} (h : Calls P f args w R) : CallsIn (Fence.wide.inRound l) n P f args w R := callsIn_wide.2 h
/-- a round's text -/
def uN (pw first : ByteArray) : Nat → ByteArray
  | 0 => first
  | k + 1 => hmacW pw (uN pw first k)
theorem hmacW_size (a b : ByteArray) : (hmacW a b).size = 32 := shaW_size _
theorem uN_size (pw first : ByteArray) (k : Nat) : (uN pw first (k + 1)).size = 32 := hmacW_size _ _
theorem uN_le (pw first : ByteArray) (hf : first.size ≤ 1000) (k : Nat) : (uN pw first k).size ≤ 1000 := by
  cases k with
  | zero => exact hf
  | succ k => rw [uN_size]; decide
def textsL (pw first : ByteArray) (n : Nat) : List ByteArray := (List.range n).map fun k => uN pw first (k + 1)
theorem textsL_length (pw first : ByteArray) (n : Nat) : (textsL pw first n).length = n := by simp [textsL]
theorem textsL_size (pw first : ByteArray) (n : Nat) (u : ByteArray) (h : u ∈ textsL pw first n) : u.size = 32 := by
  simp only [textsL, List.mem_map] at h
  obtain ⟨k, _, rfl⟩ := h
  exact uN_size _ _ _
theorem texts_any (pw first : ByteArray) (n : Int) (w : World) :
    Calls Try.prog 39 #[.string pw, .string first, .int .i64 n] w fun e w' => e = .returned (.func (.func 54) #[] #[.pointer (some ⟨w.heap.size + 1, 0, none⟩), .pointer (some ⟨w.heap.size + 1 + 1, 0, none⟩), .pointer (some ⟨w.heap.size, 0, none⟩)]) ∧
      w' = ((w.alloc (.cells #[.string pw] 9)).alloc (.cells #[.string first] 9)).alloc (.cells #[.int .i64 n] 3) := by
  go_enter Try.func39, Try.ntmps39
  go_wp2
  go_ret
  exact ⟨rfl, rfl⟩
def KpD (B Bl : Nat) (X Y : World) : Prop := Below B X Y ∧ Y.heap[Bl]? = X.heap[Bl]?
set_option maxHeartbeats 1000000 in
theorem texts_in (n L B1 B2 B3 B : Nat) (pw first : ByteArray) (m : Nat) (J : List ByteArray → World → Prop)
    (hJ : ∀ s X Y, J s X → Below X.heap.size X Y → J s Y)
    (hY : ∀ pre x W, J pre W → (∃ suf, textsL pw first m = pre ++ x :: suf) → YieldAt Fence.wide (n - 1) Try.prog L #[.string x] W fun e W' => e = .returned (.bool true) ∧ J (pre ++ [x]) W' ∧ KpD B B3 W W')
    (W : World) (hp : pw.size ≤ 1000) (hf : first.size ≤ 1000) (hm : m ≤ 1000) (h1 : At W B1 9 [.string first]) (h2 : At W B2 3 [.int .i64 m]) (h3 : At W B3 9 [.string pw]) (h0 : J [] W) :
    CallsIn Fence.wide n Try.prog 54 #[.func (.yield L) #[] #[], .pointer (some ⟨B1, 0, none⟩), .pointer (some ⟨B2, 0, none⟩), .pointer (some ⟨B3, 0, none⟩)] W fun e W' => (∃ v, e = .returned v) ∧ J (textsL pw first m) W' := by
  refine callsIn_of_wp Try.func54 rfl trivial ?_ rfl
  simp only [Try.ntmps54, List.size_toArray, List.length_cons, List.length_nil, Nat.reduceAdd, Nat.reduceSub, Array.replicate_succ, Array.replicate_zero, List.push_toArray, List.append_toArray, List.nil_append, List.cons_append]
  have HY := Aside0.mk hY
  have HJS := Aside0.mk hJ
  have HP := Aside0.mk (And.intro hp (And.intro hf hm))
  have c1 := h1.cell 0 _ rfl
  have c2 := h2.cell 0 _ rfl
  clear hY hJ hp hf hm
  gi_wp2
  clear c1 c2
  gi_loopg [5, 8] m (fun gg s5 s8 wr => ∃ k : Nat, k + gg = m ∧ s8 = .int .i64 k ∧ s5 = .string (uN pw first k) ∧ At wr B3 9 [.string pw] ∧ J ((textsL pw first m).take k) wr)
  case atStart => exact ⟨0, by omega, rfl, rfl, h3, by simpa using h0⟩
  case round =>
    obtain ⟨k, hk, rfl, rfl, ha, hj⟩ := hrel
    have HA := Aside0.mk ha; have HJ := Aside0.mk hj
    clear ha hj h0 h1 h2 h3
    have hcell := HA.out.cell 0 _ rfl
    cases gk with
    | zero =>
      have hkm : k = m := by omega
      subst hkm
      have hlt : ¬ ((k : Int) < (k : Int)) := by omega
      gi_wp2
      go_end0
      refine ⟨⟨_, rfl⟩, ?_⟩
      have e : (textsL pw first k).take k = textsL pw first k := List.take_of_length_le (by rw [textsL_length]; exact Nat.le_refl _)
      rw [← e]
      exact HJ.out
    | succ gk =>
      have hlt : (k : Int) < (m : Int) := by omega
      have hlen : k < (textsL pw first m).length := by rw [textsL_length]; omega
      have hget : (textsL pw first m)[k] = uN pw first (k + 1) := by simp [textsL]
      have hsplit : textsL pw first m = (textsL pw first m).take k ++ uN pw first (k + 1) :: (textsL pw first m).drop (k + 1) := by
        rw [← hget, List.getElem_cons_drop, List.take_append_drop]
      have htake : (textsL pw first m).take (k + 1) = (textsL pw first m).take k ++ [uN pw first (k + 1)] := by
        rw [← hget, List.take_append_getElem]
      have HSP := Aside0.mk hsplit
      have HT := Aside0.mk htake
      have HUL := Aside0.mk (uN_le pw first HP.out.2.1 k)
      clear hsplit hget hlen htake
      gi_wp2_with (refine ⟨trivial, fun h => absurd h (by simp [Fence.wide]), ?_⟩; gi_at_call 20; (refine (callsIn_wide.2 (hmac_any pw (uN pw first k) (by have := HP.out.1; omega) (by have := HUL.out; omega) _)).mono ?_); rintro e w2 ⟨rfl, hb⟩; have n1 := Aside0.mk (at_go1 HA.out hb); have n2 := Aside0.mk (HJS.out _ _ _ HJ.out hb); clear HA HJ hb hcell; have HA := n1; have HJ := n2; clear n1 n2; obtain ⟨fn, tmps, assign, body, hy, hR⟩ := HY.out ((textsL pw first m).take k) (hmacW pw (uN pw first k)) w2 HJ.out ⟨_, HSP.out⟩)
      refine ⟨fun h => (by simp [Fence.wide] at h), hR.mono ?_⟩
      rintro e W3 ⟨rfl, hJ3, hb3, hv3⟩
      have HA3 : Aside0 (At W3 B3 9 [.string pw]) := ⟨⟨hv3.trans HA.out.heap⟩⟩
      have HJ3 := Aside0.mk hJ3
      clear hJ3 hb3 hv3 hR hy
      gi_wp2
      go_roundg gk
      case measure => omega
      case rel => exact ⟨k + 1, by omega, by rw [wrap64_of_bounds (by omega) (by have := HP.out.2.2; omega)]; rfl, rfl, HA3.out, by rw [HT.out]; exact HJ3.out⟩
end Go.Proofs.Ytbafbpfpnfnikaa.Given
