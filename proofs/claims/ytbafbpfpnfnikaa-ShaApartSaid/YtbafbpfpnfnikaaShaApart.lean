/- The walk of hamperlaw07.ShaApart: a hash and its copy go their own ways. Conditions: none but the statement's own. -/
import Derived.Test.YtbafbpfpnfnikaaShaTwo
namespace Go.Proofs.Ytbafbpfpnfnikaa.Given
open Go.RowKit Go.Proofs.YtbafbpfpnfnikaaW.PrintWords Go.Proofs.YtbafbpfpnfnikaaW.PrintLast Go.Proofs.YtbafbpfpnfnikaaW.PrintMore
open Go.Proofs.Ytbafbpfpnfnikaa.Row Go.Proofs.Ytbafbpfpnfnikaa.Row.At
set_option maxRecDepth 100000
set_option linter.unusedVariables false
set_option linter.unusedSimpArgs false
set_option maxHeartbeats 8000000 in
theorem ShaApart_walk (a0 a1 a2 : ByteArray) (a3 : Int) (w : World) (w0 : a0.size ≤ 140737488351232) (w1 : a1.size ≤ 140737488351232) (w2 : a2.size ≤ 140737488351232) (w3 : (Lit.int .i64 a3).wf = true) :
    Calls Try.prog 8 #[.string a0, .string a1, .string a2, .int .i64 a3] w fun e w' => e = .returned (.bool true) ∧ Below w.heap.size w w' := by
  have HB : Aside0 (Below w.heap.size w w) := ⟨Below.refl _ _⟩
  obtain ⟨m, hm, he⟩ : ∃ m : Nat, m < 5 ∧ wrap64 ((IntKind.u64.wrap a3).tmod 5) = m := by
    have h1 : 0 ≤ IntKind.u64.wrap a3 := by rw [IntKind.wrap_u64]; omega
    have h2 := Int.tmod_lt_of_pos (IntKind.u64.wrap a3) (b := 5) (by decide)
    have h3 := Int.tmod_nonneg 5 h1
    refine ⟨((IntKind.u64.wrap a3).tmod 5).toNat, by omega, ?_⟩
    rw [wrap64_of_bounds (by omega) (by omega)]
    omega
  have HM := Aside0.mk hm
  have HE := Aside0.mk he
  clear hm he
  by_cases hk : 20000 < a0.size + a1.size + a2.size
  · have hk2 : (20000 : Int) < (a0.size : Int) + (a1.size : Int) + (a2.size : Int) := by omega
    clear hk
    go_enter Try.func8, Try.ntmps8
    go_wp2_with (go_at_call 22; (with_reducible refine (works_any _).mono ?_); rintro e w1 ⟨rfl, hb⟩; have n1 := Aside0.mk (HB.out.trans (hb.mono HB.out.size)); clear HB hb; have HB := n1; clear n1)
    go_ret
    exact ⟨rfl, HB.out⟩
  have hk2 : ¬ ((20000 : Int) < (a0.size : Int) + (a1.size : Int) + (a2.size : Int)) := by omega
  have HZ : Aside0 (a0.size + a1.size + a2.size ≤ 20000) := ⟨by omega⟩
  have B0 : Aside0 ((⟨#[]⟩ : ByteArray).size + a0.size ≤ 140737488355000) := ⟨by show 0 + a0.size ≤ _; omega⟩
  have B1 : Aside0 (a0.size + (⟨#[]⟩ : ByteArray).size ≤ 140737488355000) := ⟨by show a0.size + 0 ≤ _; omega⟩
  have B2 : Aside0 ((a0 ++ a1).size ≤ 140737488351232) := ⟨by rw [ByteArray.size_append]; omega⟩
  have B3 : Aside0 ((a0 ++ a2).size ≤ 140737488351232) := ⟨by rw [ByteArray.size_append]; omega⟩
  have B4 : Aside0 ((a0 ++ a1).size + a2.size ≤ 140737488355000) := ⟨by rw [ByteArray.size_append]; omega⟩
  have B5 : Aside0 ((a0 ++ a1 ++ a2).size ≤ 140737488351232) := ⟨by rw [ByteArray.size_append, ByteArray.size_append]; omega⟩
  clear w3 hk
  go_enter Try.func8, Try.ntmps8
  go_wp2_with (first
    | (go_at_call 22; (with_reducible refine (works_any _).mono ?_); rintro e w1 ⟨rfl, hb⟩; have n1 := Aside0.mk (HB.out.trans (hb.mono HB.out.size)); clear HB hb; have HB := n1; clear n1)
    | (go_at_call 14; (with_reducible refine (new_ate _).mono ?_); rintro e w2 ⟨rfl, hn, hb⟩; have H1 := Aside0.mk (OneH.new hn hb HB.out); clear HB hn hb)
    | (go_at_call 16; (with_reducible refine (add_ate ⟨#[]⟩ a0 B0.out _ _ H1.out.hg).mono ?_); rintro e w3 ⟨rfl, ha, hb⟩; rw [empty_app] at ha; have n1 := Aside0.mk (H1.out.add ha hb); clear H1 ha hb; have H1 := n1; clear n1)
    | (go_at_call 15; (with_reducible refine (copy_ate a0 _ _ H1.out.hg).mono ?_); rintro e w4 ⟨rfl, ha, hb⟩; have H2 := Aside0.mk (H1.out.copy ha hb); clear H1 ha hb))
  obtain ⟨g, hg⟩ : ∃ g, g = w1.heap.size := ⟨_, rfl⟩
  obtain ⟨k, hk⟩ : ∃ k, k = w3.heap.size := ⟨_, rfl⟩
  rw [← hg, ← hk] at H2 ⊢
  clear hg hk
  go_loopg [11] m (fun gg s11 wr => ∃ i : Nat, i + gg = m ∧ s11 = .int .i64 i ∧ TwoH w g a0 k a0 wr)
  case atStart => exact ⟨0, by omega, rfl, H2.out⟩
  case round =>
    obtain ⟨i, hi, rfl, htwo⟩ := hrel
    clear H2
    have H2 := Aside0.mk htwo
    clear htwo
    have HM2 := HM.out
    have he := HE.out
    cases gk with
    | zero =>
      have hin : i = m := by omega
      subst hin
      have hlt : ¬ ((i : Int) < (i : Int)) := by omega
      have l1 : (9223372036854775807 < a0.size + a1.size) = False := eq_false (by have := HZ.out; omega)
      have l2 : (9223372036854775807 < a0.size + a2.size) = False := eq_false (by have := HZ.out; omega)
      have l3 : (9223372036854775807 < (a0 ++ a1).size + a2.size) = False := eq_false (by have := B4.out; omega)
      go_wp2_with (first
        | (go_at_call 16; (with_reducible refine (add_ate a0 a1 (by have := HZ.out; omega) _ _ H2.out.hg).mono ?_); rintro e w5 ⟨rfl, ha, hb⟩; have H3 := Aside0.mk (H2.out.addG ha hb); clear H2 ha hb)
        | (go_at_call 16; (with_reducible refine (add_ate a0 a2 (by have := HZ.out; omega) _ _ H3.out.hk).mono ?_); rintro e w6 ⟨rfl, ha, hb⟩; have H4 := Aside0.mk (H3.out.addK ha hb); clear H3 ha hb)
        | (go_at_call 17; (with_reducible refine (sum_ate (a0 ++ a1) (by have := B2.out; omega) _ _ H4.out.hg).mono ?_); rintro e w7 ⟨rfl, hb⟩; have n1 := Aside0.mk (H4.out.go hb); clear H4 hb; have H4 := n1; clear n1)
        | (go_at_call 19; (with_reducible refine (shaSum0_any (a0 ++ a1) B2.out _).mono ?_); rintro e w8 ⟨rfl, hb⟩; have n1 := Aside0.mk (H4.out.go hb); clear H4 hb; have H4 := n1; clear n1)
        | (go_at_call 17; (with_reducible refine (sum_ate (a0 ++ a2) (by have := B3.out; omega) _ _ H4.out.hk).mono ?_); rintro e w9 ⟨rfl, hb⟩; have n1 := Aside0.mk (H4.out.go hb); clear H4 hb; have H4 := n1; clear n1)
        | (go_at_call 19; (with_reducible refine (shaSum0_any (a0 ++ a2) B3.out _).mono ?_); rintro e w8 ⟨rfl, hb⟩; have n1 := Aside0.mk (H4.out.go hb); clear H4 hb; have H4 := n1; clear n1)
        | (go_at_call 16; (with_reducible refine (add_ate (a0 ++ a1) a2 B4.out _ _ H4.out.hg).mono ?_); rintro e w6 ⟨rfl, ha, hb⟩; have H5 := Aside0.mk (H4.out.addG ha hb); clear H4 ha hb)
        | (go_at_call 17; (with_reducible refine (sum_ate (a0 ++ a1 ++ a2) (by have := B5.out; omega) _ _ H5.out.hg).mono ?_); rintro e w7 ⟨rfl, hb⟩; have n1 := Aside0.mk (H5.out.go hb); clear H5 hb; have H5 := n1; clear n1)
        | (go_at_call 19; (with_reducible refine (shaSum0_any (a0 ++ a1 ++ a2) B5.out _).mono ?_); rintro e w8 ⟨rfl, hb⟩; have n1 := Aside0.mk (H5.out.go hb); clear H5 hb; have H5 := n1; clear n1))
      go_ret
      exact ⟨rfl, H5.out.bel⟩
    | succ gk =>
      have hlt : (i : Int) < (m : Int) := by omega
      go_wp2_with (first
        | (go_at_call 17; (with_reducible refine (sum_ate a0 (by have := HZ.out; omega) _ _ H2.out.hg).mono ?_); rintro e w7 ⟨rfl, hb⟩; have n1 := Aside0.mk (H2.out.go hb); clear H2 hb; have H2 := n1; clear n1)
        | (go_at_call 19; (with_reducible refine (shaSum0_any a0 (by have := HZ.out; omega) _).mono ?_); rintro e w8 ⟨rfl, hb⟩; have n1 := Aside0.mk (H2.out.go hb); clear H2 hb; have H2 := n1; clear n1)
        | (go_at_call 16; (with_reducible refine (add_ate a0 ⟨#[]⟩ B1.out _ _ H2.out.hg).mono ?_); rintro e w6 ⟨rfl, ha, hb⟩; rw [ba_empty] at ha; have n1 := Aside0.mk (H2.out.addG ha hb); clear H2 ha hb; have H2 := n1; clear n1)
        | (go_at_call 15; (with_reducible refine (copy_ate a0 _ _ H2.out.hk).mono ?_); rintro e w10 ⟨rfl, hn, hb⟩; have HSZ := Aside0.mk (And.intro H2.out.hg.lt (And.intro H2.out.hk.lt H2.out.bel.size)); have n1 := Aside0.mk (H2.out.go hb); clear H2 hb; have H2 := n1; clear n1; have HN := Aside0.mk hn; clear hn)
        | (go_at_call 16; (with_reducible refine (add_ate a0 a2 (by have := HZ.out; omega) _ _ HN.out).mono ?_); rintro e w11 ⟨rfl, ha, hb⟩; have n1 := Aside0.mk (H2.out.kept hb (by have := HSZ.out; omega) (by have := HSZ.out; omega) HSZ.out.2.2); clear H2 ha hb HN; have H2 := n1; clear n1))
      go_roundg gk
      case measure => omega
      case rel => exact ⟨i + 1, by omega, rfl, H2.out⟩
end Go.Proofs.Ytbafbpfpnfnikaa.Given
