/- AesMany: what is enciphered so often is deciphered by as many steps. Conditions: none. -/
import Derived.Test.YtfbcgpgpfpnpnaaAesL
import Derived.Test.YtfbcgpgpfpnpnaaStrs
namespace Go.Proofs.Ytfbcgpgpfpnpnaa.Given
open Go.RowKit Go.Proofs.YtfbcgpgpfpnpnaaW.PrintWords Go.Proofs.YtfbcgpgpfpnpnaaW.PrintLast Go.Proofs.YtfbcgpgpfpnpnaaW.PrintMore
open Go.Proofs.Ytfbcgpgpfpnpnaa.Row Go.Proofs.Ytfbcgpgpfpnpnaa.Aes Go.Proofs.Ytfbcgpgpfpnpnaa.Row.At
set_option linter.unusedVariables false
set_option linter.unusedSimpArgs false
/-- A block, enciphered so often. -/
def nthE (key b : ByteArray) : Nat → ByteArray
  | 0 => b
  | n + 1 => encW key (nthE key b n)
theorem nthE_size (key b : ByteArray) (hb : b.size = 16) : ∀ n, (nthE key b n).size = 16
  | 0 => hb
  | n + 1 => encW_size _ _
theorem nthE_back (key b : ByteArray) (hk : key.size = 32) (hb : b.size = 16) (n : Nat) : decW key (nthE key b (n + 1)) = nthE key b n := decW_encW _ _ hk (nthE_size key b hb n)
def nths (key b : ByteArray) (n : Nat) : List ByteArray := (List.range (n + 1)).map (nthE key b)
theorem nths_succ (key b : ByteArray) (n : Nat) : nths key b (n + 1) = nths key b n ++ [encW key (nthE key b n)] := by
  unfold nths; rw [List.range_succ, List.map_append]; rfl
theorem nths_length (key b : ByteArray) (n : Nat) : (nths key b n).length = n + 1 := by simp [nths]
theorem nths_get (key b : ByteArray) (n i : Nat) (h : i < n + 1) : (nths key b n)[i]? = some (nthE key b i) := by simp [nths, h]
theorem Has.appended {w w2 w3 : World} {g : Nat} {kb : List UInt8} {l : List ByteArray} {v v' : Value} {s : ByteArray} {o : Obj} (h : Has w w2 g kb) (hS : Strs w.heap.size v l w2)
    (ho : w3.ownsRow w.heap.size 9 1 v' (l.length + 1) (l.map Value.string ++ [.string s])) (hg : (w2.alloc o).grownBy w3 v.ownBlock) : Has w w3 g kb ∧ Strs w.heap.size v' (l ++ [s]) w3 :=
  ⟨⟨(h.cip.alloc o).grown (hS.alloc o) (by decide) hg, (h.bel.alloc h.bel.size o).grown hg (by have := h.bel.size; simp; omega) (fun k e => (hS.lt k e).1)⟩, Strs.append ho⟩
set_option maxHeartbeats 1000000 in
set_option maxRecDepth 100000 in
theorem aesMany_walk (a0 a1 : ByteArray) (a2 : Int) (w : World) (w0 : a0.size ≤ 140737488351232) (w1 : a1.size ≤ 140737488351232) (w2 : (Lit.int .i64 a2).wf = true) :
    Calls Try.prog 7 #[.string a0, .string a1, .int .i64 a2] w fun e w' => e = .returned (.bool true) ∧ Below w.heap.size w w' := by
  have HB := Aside0.mk (Below.refl w.heap.size w)
  clear w0 w1
  obtain ⟨m, hm, he⟩ : ∃ m : Nat, m < 20 ∧ wrap64 ((IntKind.u64.wrap a2).tmod 20) = m := by
    have h1 : 0 ≤ IntKind.u64.wrap a2 := by rw [IntKind.wrap_u64]; omega
    have h2 := Int.tmod_lt_of_pos (IntKind.u64.wrap a2) (b := 20) (by decide)
    have h3 := Int.tmod_nonneg 20 h1
    refine ⟨((IntKind.u64.wrap a2).tmod 20).toNat, by omega, ?_⟩
    rw [wrap64_of_bounds (by omega) (by omega)]
    omega
  have HM := Aside0.mk hm
  have HE := Aside0.mk he
  clear hm he
  by_cases hk : a0.size = 32
  · have HK := Aside0.mk hk
    clear hk
    by_cases ha : a1.size = 16
    · have HA := Aside0.mk ha
      have s1 : ((a1.size : Int) != 16) = false := by rw [HA.out]; rfl
      clear ha
      go_enter Try.func7, Try.ntmps7
      go_wp2_with (first
        | (go_at_call 17; (with_reducible refine (new_ok a0 HK.out _).mono ?_); rintro e w' ⟨rfl, hc, hb⟩; have HC := Aside0.mk (Has.mk hc (below_go HB.out hb)); clear HB hc hb)
        | (go_at_call 18; (with_reducible refine (works_any _).mono ?_); rintro e w' ⟨rfl, hb⟩; have n1 := Aside0.mk (HC.out.go hb); clear HC hb; have HC := n1; clear n1))
      rw [HE.out]
      obtain ⟨g, hg⟩ : ∃ g, g = w.heap.size := ⟨_, rfl⟩
      rw [← hg] at HC ⊢
      have HG := Aside0.mk hg
      clear hg
      obtain ⟨i0, z0, hi0, hz0, hz1, hz2, hz3⟩ := strInfo
      have HI := Aside0.mk hi0
      have HZ := Aside0.mk (And.intro hz0 (And.intro hz1 (And.intro hz2 hz3)))
      clear hi0 hz0 hz1 hz2 hz3
      go_loopg [9, 10] m (fun gg s9 s10 wx => ∃ i : Nat, i + gg = m ∧ s10 = .int .i64 i ∧ Strs w.heap.size s9 (nths a0 a1 i) wx ∧ Has w wx g a0.data.toList)
      case atStart => exact ⟨0, by omega, rfl, Strs.lit _ _ a1 HC.out.bel.size, HC.out.cip.alloc _, HC.out.bel.alloc HC.out.bel.size _⟩
      case round =>
        obtain ⟨i, hi, rfl, hS, hC⟩ := hrel
        clear HC
        have HC := Aside0.mk hC
        obtain ⟨sg, cap, rfl⟩ := hS.formN (nths_length a0 a1 i) (by omega)
        have p1 : (0 : Int) ≤ (i : Int) := by omega
        have p2 : (i : Int) < ((i + 1 : Nat) : Int) := by omega
        have p3 : (i : Int) < (i : Int) + 1 := by omega
        have hcell := hS.cell i _ (nths_get a0 a1 i i (by omega))
        have HS := Aside0.mk hS
        have HSZ := Aside0.mk (nthE_size a0 a1 HA.out i)
        clear hS hC
        cases gk with
        | zero =>
          have him : i = m := by omega
          subst him
          have hlt : ¬ ((i : Int) < (i : Int)) := by omega
          go_wp2
          go_loopg [13, 14] i (fun gg s13 s14 wx => gg ≤ i ∧ s14 = .int .i64 ((gg : Int) - 1) ∧ s13 = .string (nthE a0 a1 gg) ∧ Strs w.heap.size (.slice (some ⟨sg, 0, none⟩) (i + 1) cap) (nths a0 a1 i) wx ∧ Has w wx g a0.data.toList)
          case atStart => exact ⟨Nat.le_refl _, by have := HM.out; rw [wrap64_of_bounds (by omega) (by omega)], rfl, HS.out, HC.out⟩
          case round =>
            obtain ⟨hgi, rfl, rfl, hS, hC⟩ := hrel
            clear HC HS hcell p1 p2 p3 hlt
            have HC := Aside0.mk hC
            cases gk with
            | zero =>
              clear hS hC
              have e0 : nthE a0 a1 0 = a1 := rfl
              rw [e0]
              go_wp2
              go_ret
              exact ⟨rfl, HC.out.bel⟩
            | succ gk =>
              have hcell := hS.cell gk _ (nths_get a0 a1 i gk (by omega))
              have HS := Aside0.mk hS
              clear hS hC
              have q1 : ((gk + 1 : Nat) : Int) - 1 = (gk : Int) := by omega
              rw [q1]
              have q2 : (0 : Int) ≤ (gk : Int) := by omega
              have q3 : (gk : Int) < ((i + 1 : Nat) : Int) := by omega
              have q4 : (gk : Int) < (i : Int) + 1 := by omega
              have hbk : decW a0 (nthE a0 a1 (gk + 1)) = nthE a0 a1 gk := nthE_back a0 a1 HK.out HA.out gk
              go_wp2_with (first
                | (go_at_call 15; (with_reducible refine (Decrypt_w a0 _ HK.out (nthE_size a0 a1 HA.out _) _ _ HC.out.cip).mono ?_); rintro e w2 ⟨rfl, hb⟩; have n1 := Aside0.mk (HC.out.go hb); have n2 := Aside0.mk (HS.out.below hb (Nat.le_refl _)); clear HC HS hb; have HC := n1; have HS := n2; clear n1 n2; have hcell := HS.out.cell gk _ (nths_get a0 a1 i gk (by omega)); rw [hbk]))
              have h14 := HM.out
              go_roundg gk
              case measure => omega
              case rel => exact ⟨by omega, by rw [wrap64_of_bounds (by omega) (by omega)], rfl, HS.out, HC.out⟩
        | succ gk =>
          have hlt : (i : Int) < (m : Int) := by omega
          have hz : (encW a0 (nthE a0 a1 i)).size = 16 := encW_size _ _
          go_wp2_with (first
            | (go_at_call 14; (with_reducible refine (Encrypt_w a0 _ HK.out HSZ.out _ _ HC.out.cip).mono ?_); rintro e w2 ⟨rfl, hb⟩; have n1 := Aside0.mk (HC.out.go hb); have n2 := Aside0.mk (HS.out.below hb (Nat.le_refl _)); clear HC HS hb; have HC := n1; have HS := n2; clear n1 n2)
            | ((with_reducible refine gate_builtin (b := .append) (xs := #[.tmp 61, .tmp 63]) rfl ?_); at_builtin; (refine wpList_append_own _ rfl _ _ 30 rfl w.heap.size 9 i0 z0 1 16 Try.underlying30 HI.out HZ.out.1 HZ.out.2.1 HZ.out.2.2.1 HZ.out.2.2.2 (by decide) _ _ _ rfl (HS.out.alloc _) ⟨w2.heap.size, 0, none⟩ 1 1 [.string (encW a0 (nthE a0 a1 i))] rfl rfl (cell_one_new _ _ _) (by simp [Value.oneCell']) (by have := HM.out; rw [nths_length]; unfold maxLen; omega) (by have := HM.out; rw [nths_length]; omega) (by have := HC.out.bel.size; simp; omega) ?_); intro v' w3 hown' hgrow _; have n1 := Aside0.mk (HC.out.appended HS.out hown' hgrow); clear HC HS hown' hgrow; have HC := Aside0.mk n1.out.1; have HS := Aside0.mk n1.out.2; clear n1; rw [← nths_succ] at HS))
          have h14 := HM.out
          go_roundg gk
          case measure => omega
          case rel => exact ⟨i + 1, by omega, by rw [wrap64_of_bounds (by omega) (by omega)]; rfl, HS.out, HC.out⟩
    · have s1 : ((a1.size : Int) != 16) = true := by rw [bne_iff_ne]; omega
      go_enter Try.func7, Try.ntmps7
      go_wp2_with (first
        | (go_at_call 17; (with_reducible refine (new_ok a0 HK.out _).mono ?_); rintro e w' ⟨rfl, hc, hb⟩; have HC := Aside0.mk (Has.mk hc (below_go HB.out hb)); clear HB hc hb)
        | (go_at_call 18; (with_reducible refine (works_any _).mono ?_); rintro e w' ⟨rfl, hb⟩; have n1 := Aside0.mk (HC.out.go hb); clear HC hb; have HC := n1; clear n1))
      go_ret
      exact ⟨rfl, HC.out.bel⟩
  · have HK := Aside0.mk hk
    clear hk
    go_enter Try.func7, Try.ntmps7
    go_wp2_with (first
      | (go_at_call 17; (with_reducible refine (new_arg a0 HK.out _).mono ?_); rintro e w' ⟨rfl, rfl⟩)
      | (go_at_call 18; (with_reducible refine (works_any _).mono ?_); rintro e w' ⟨rfl, hb⟩; have n1 := Aside0.mk (below_go HB.out hb); clear HB hb; have HB := n1; clear n1))
    go_ret
    exact ⟨rfl, HB.out⟩
end Go.Proofs.Ytfbcgpgpfpnpnaa.Given
