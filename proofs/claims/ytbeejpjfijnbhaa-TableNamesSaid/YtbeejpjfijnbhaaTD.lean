/- The contract of slices.Repeat at a slice of one element and a small count. Conditions: one element; 1 to 1000000 times. -/
import Derived.Test.YtbeejpjfijnbhaaG0
import Derived.Laws.CopyOwn
import Derived.Deep.DeepMust
import Derived.Deep.RegionLaw
namespace Go.Proofs.Ytbeejpjfijnbhaa.Given
open Go.RowKit Go.Proofs.YtbeejpjfijnbhaaW.PrintWords Go.Proofs.YtbeejpjfijnbhaaW.PrintLast Go.Proofs.YtbeejpjfijnbhaaW.PrintMore
set_option linter.unusedVariables false
set_option linter.unusedSimpArgs false

theorem mask32 (n : Int) (h0 : 0 ≤ n) (h1 : n < 4294967296) : bits .and .u64 n 4294967295 = n := by
  have := bits_mask .u64 64 (by decide) (fun n h0 h1 => by simp only [IntKind.wrap, IntKind.bits, IntKind.signed] at *; simp; omega) 32 (by decide) n h0 (by omega)
  rw [show (4294967295 : Int) = 2 ^ 32 - 1 from rfl, this]
  omega

theorem mul64_one (n : Int) (h0 : 0 ≤ n) (h1 : n < 4294967296) (w : World) :
    Calls Try.prog 23 #[.int .u64 1, .int .u64 n] w fun e w' => e = .returned (.tuple #[.int .u64 0, .int .u64 n]) ∧ w = w' := by
  have hm := mask32 n h0 h1
  have hm1 : bits .and .u64 1 4294967295 = 1 := by decide +kernel
  have hm0 : bits .and .u64 0 4294967295 = 0 := by decide +kernel
  have hd : n / 4294967296 = 0 := by omega
  go_enter Try.func23, Try.ntmps23
  go_wp2
  go_ret2
  exact ⟨rfl, rfl⟩
theorem mul_one (n : Int) (h0 : 0 ≤ n) (h1 : n < 4294967296) (w : World) :
    Calls Try.prog 21 #[.int .u64 1, .int .u64 n] w fun e w' => e = .returned (.tuple #[.int .u64 0, .int .u64 n]) ∧ w = w' := by
  go_enter Try.func21, Try.ntmps21
  go_wp2_with (go_at_call 23; refine (mul64_one n h0 h1 _).mono ?_; rintro e w' ⟨rfl, rfl⟩)
  go_ret2
  exact ⟨rfl, rfl⟩

/-- Block B holds a row whose first n cells are x. -/
def Rep (B : Nat) (x : Int) (len n : Nat) (W : World) : Prop :=
  ∃ cur : List Value, cur.length = len ∧ cur.take n = List.replicate n (.int .i64 x) ∧ W.heap[B]? = some (.cells cur.toArray 3 (0, 0))

set_option maxHeartbeats 1000000 in
set_option maxRecDepth 100000 in
theorem repeat_ok (A : Option Addr) (c : Nat) (x : Int) (len : Nat) (w : World) (hr : Kd.C (Kd.int .i64) w A 1 [x]) (hc : 1 ≤ c) (h1 : 1 ≤ len) (h2 : len ≤ 1000000) :
    Calls Try.prog 18 #[.slice A 1 c, .int .i64 len] w fun e w' => e = .returned (.slice (some ⟨w.heap.size, 0, none⟩) len len) ∧ Rep w.heap.size x len len w' ∧ Below w.heap.size w w' := by
  have HR := Aside0.mk hr
  clear hr
  have hmk := print_make (P := Try.prog) 22 3 .i64 8 Try.underlying22 info3 (by decide) len (by omega)
  go_enter Try.func18, Try.ntmps18
  have hinf : (Try.prog.info? 3).map (·.size) = some 1 := by kernel_rfl
  have HINF := Aside0.mk hinf
  clear hinf
  obtain ⟨ad, e0, hx0⟩ := Kd.at_int HR.out 0 (by omega) (by omega)
  cases e0
  simp only [Int.toNat_zero, Addr.add_zero'] at hx0
  have hrd : rd [x] 0 = x := rfl
  rw [hrd] at hx0
  have HX0 := Aside0.mk hx0
  clear hx0 hrd
  go_wp2_with (first | (go_at_call 21; refine (mul_one len (by omega) (by omega) _).mono ?_; rintro e w' ⟨rfl, rfl⟩) | ((with_reducible refine gate_builtin (b := .copy) (xs := #[.tmp 31, .tmp 32]) rfl ?_); go_must (refine wpList_copy_splice rfl (.tmp 31) (.tmp 32) 22 22 rfl 3 Try.underlying22 HINF.out (some ⟨w.heap.size, 0, none⟩) (some ad) len len 1 c rfl rfl w.heap.size 0 (madeCells #[.int .i64 0] len).toList 3 ?hg [.int .i64 x] ?hn ?hpos ?hfit ?hone w.heap.size w ?hb (Nat.le_refl _) ?_); go_must (case hg => exact heap_alloc_new _ _); go_must (case hn => exact (Nat.min_eq_left h1).symm); go_must (case hpos => intro _; refine ⟨rfl, ad, rfl, ?_⟩; intro j v hj; cases j with | zero => (simp at hj; subst hj; rw [Addr.add_zero', Below.cell (Below.alloc (Below.refl _ _) (Nat.le_refl _) _) (block_lt_of_cell HX0.out)]; exact HX0.out) | succ j => simp at hj); go_must (case hfit => simp [size_madeCells]; omega); go_must (case hone => simp [Value.oneCell']); go_must (case hb => exact (Below.refl _ _).alloc (Nat.le_refl _) _); intro w1 hg1 hb1))
  have hrep1 : Rep w.heap.size x len 1 w1 := by
    refine ⟨_, ?_, ?_, hg1.out⟩
    · rw [length_splice]
      · simp [size_madeCells]
      · simp [size_madeCells]; omega
    · simp [splice]
  have HREP1 := Aside0.mk hrep1
  have HB1 := Aside0.mk hb1
  clear hrep1 hg1 hb1 hmk
  go_loopw [8] (fun v w' => ∃ n : Nat, 1 ≤ n ∧ n ≤ len ∧ v = .int .i64 n ∧ Aside0 (Rep w.heap.size x len n w') ∧ Aside0 (Below w.heap.size w w')) (fun v _ => len - (intOf v).toNat)
  case atStart => exact ⟨1, by omega, by omega, rfl, HREP1, HB1⟩
  case round =>
    obtain ⟨n, hn1, hn2, rfl, HREP, HB⟩ := hrel
    by_cases hlt : n < len
    · obtain ⟨cur, hcl, htk, hblk⟩ := HREP.out
      have HBLK := Aside0.mk hblk
      have HCL := Aside0.mk hcl
      have HTK := Aside0.mk htk
      clear hcl htk hblk
      have hne : ¬ (len = n) := by omega
      obtain ⟨cs, hcs⟩ : ∃ cs, cs = List.replicate (Nat.min n (len - n)) (Value.int .i64 x) := ⟨_, rfl⟩
      obtain ⟨m, hm⟩ : ∃ m, m = Nat.min n (len - n) := ⟨_, rfl⟩
      have hmn : m ≤ n := by rw [hm]; exact Nat.min_le_left _ _
      have hml : m ≤ len - n := by rw [hm]; exact Nat.min_le_right _ _
      have hm1 : 1 ≤ m := by rw [hm]; exact Nat.le_min.2 ⟨hn1, by omega⟩
      have hlen : cs.length = m := by rw [hcs, hm]; simp
      have SN : Aside0 (cs.length = Nat.min n (len - n)) := ⟨by rw [hlen, hm]⟩
      have SP : Aside0 (0 < cs.length → (some ⟨w.heap.size, n, none⟩ : Option Addr) = some ⟨w.heap.size, n, none⟩ ∧ ∃ ad, (some ⟨w.heap.size, 0, none⟩ : Option Addr) = some ad ∧ ∀ j v, cs[j]? = some v → wr.drew.cell? (ad.add j) = some v) := by
        refine ⟨fun _ => ⟨rfl, _, rfl, fun j v hj => ?_⟩⟩
        have hjl : j < m := by rw [← hlen]; exact (List.getElem?_eq_some_iff.1 hj).1
        have hv : v = .int .i64 x := by
          rw [hcs, List.getElem?_replicate] at hj
          split at hj
          · exact (Option.some.inj hj).symm
          · cases hj
        rw [Addr.add_lit, Nat.zero_add]
        show wr.cell? _ = _
        rw [cell_of_row wr w.heap.size j _ _ _ HBLK.out, hv]
        have := congrArg (fun l => l[j]?) HTK.out
        simp only [List.getElem?_take, List.getElem?_replicate] at this
        rw [if_pos (by omega), if_pos (by omega)] at this
        simpa using this
      have SF : Aside0 (n + cs.length ≤ cur.length) := ⟨by rw [hlen, HCL.out]; omega⟩
      have S1 : Aside0 (∀ v ∈ cs, v.oneCell' = true) := ⟨fun v hv => by rw [hcs] at hv; rw [(List.mem_replicate.1 hv).2]; rfl⟩
      have SB : Aside0 (Below w.heap.size w wr.drew) := ⟨HB.out.drew⟩
      have SL := Aside0.mk hlen
      have SC := Aside0.mk hcs
      have SM := Aside0.mk hm
      clear hlen hcs hm
      go_wp2
      go_region_law (refine step_copy_splice rfl (.tmp 41) (.tmp 44) 22 22 rfl 3 Try.underlying22 HINF.out (some ⟨w.heap.size, n, none⟩) (some ⟨w.heap.size, 0, none⟩) (len - n) (len - n) n len (by simp [Act.eval, Act.put]) (by simp [Act.eval, Act.put]) w.heap.size n cur 3 HBLK.out cs SN.out (fun h => ⟨rfl, (SP.out h).2⟩) SF.out S1.out w.heap.size w SB.out (Nat.le_refl _) ?_; intro w4 hg4 hb4)
      have hwr : IntKind.i64.wrap ((n : Int) + (cs.length : Int)) = ((n + m : Nat) : Int) := by rw [SL.out, IntKind.wrap_i64]; omega
      rw [hwr]
      clear hwr
      have HG4 := Aside0.mk hg4.out
      have HB4 := Aside0.mk hb4
      clear hg4 hb4
      simp [Act.put]
      go_wp2
      go_roundw
      case rel =>
        refine ⟨n + m, by omega, by omega, rfl, ⟨splice cur n cs, ?_, ?_, HG4.out⟩, HB4⟩
        · rw [length_splice _ _ _ SF.out]; exact HCL.out
        · have e : (splice cur n cs).take (n + m) = cur.take n ++ cs := by
            unfold splice
            have hA : (cur.take n ++ cs).length = n + m := by rw [List.length_append, List.length_take, HCL.out, SL.out]; omega
            rw [← List.append_assoc, ← hA, List.take_left]
          rw [e, HTK.out, SC.out, ← SM.out, List.replicate_append_replicate]
      case measure => simp [intOf]; omega
    · go_wp2
      go_ret
      obtain rfl : n = len := by omega
      exact ⟨rfl, HREP.out, HB.out⟩

/-- What slices.Repeat tells (of one element, of a small count; none: not said). -/
def slices_Repeat.f (l0 : List Int) (a1 : Int) : Option (List Int) :=
  if l0.length = 1 then (if 1 ≤ a1 then (if a1 ≤ 1000000 then some (List.replicate a1.toNat (rd l0 0)) else none) else none) else none
theorem slices_Repeat.calls (A0 : Option Addr) (c0 : Nat) (l0 : List Int) (a1 : Int) (r : List Int) (w : World) (hr0 : Kd.C (Kd.int .i64) w A0 l0.length l0) (hc0 : l0.length ≤ c0) (h : slices_Repeat.f l0 a1 = some r) :
    Calls Try.prog 18 #[.slice A0 l0.length c0, .int .i64 a1] w fun e w' => ∃ v0_ : Value, e = .returned (v0_) ∧ Kd.R (Kd.int .i64) 3 w' w.heap.size (fun _ => True) v0_ r ∧ Below w.heap.size w w' := by
  unfold slices_Repeat.f at h
  split at h
  · rename_i h1
    split at h
    · rename_i h2
      split at h
      · rename_i h3
        obtain rfl := Option.some.inj h
        obtain ⟨x, rfl⟩ := List.length_eq_one_iff.1 h1
        obtain ⟨n, rfl⟩ := Int.eq_ofNat_of_zero_le (show 0 ≤ a1 by omega)
        refine (repeat_ok A0 c0 x n w hr0 hc0 (by omega) (by omega)).mono ?_
        rintro e w' ⟨rfl, ⟨cur, hl, htk, hb⟩, hbel⟩
        refine ⟨_, rfl, ?_, hbel⟩
        rw [Int.toNat_natCast]
        refine Kd.R_of_own (enc := Value.int .i64) (h1 := fun _ => rfl) ?_ (fun _ _ => trivial)
        refine ⟨by simp [encs], .inr ⟨w.heap.size, n, cur.toArray, by simp, Nat.le_refl _, hb, by simp, by simp [maxLen]; omega, by simpa using hl, ?_⟩⟩
        simp [htk, encs, rd]
      · cases h
    · cases h
  · cases h
end Go.Proofs.Ytbeejpjfijnbhaa.Given
