/- The walk of hamperlaw07.ShaAdds: what was added piece by piece has the document's digest. Conditions: none but the statement's own. -/
import Derived.Test.YtbafbpfpnfnikaaShaTwo
import Derived.Test.YtbafbpfpnfnikaaSumX
namespace Go.Proofs.Ytbafbpfpnfnikaa.Given
open Go.RowKit Go.Proofs.YtbafbpfpnfnikaaW.PrintWords Go.Proofs.YtbafbpfpnfnikaaW.PrintLast Go.Proofs.YtbafbpfpnfnikaaW.PrintMore
open Go.Proofs.Ytbafbpfpnfnikaa.Row Go.Proofs.Ytbafbpfpnfnikaa.Row.At
set_option maxRecDepth 100000
set_option linter.unusedVariables false
set_option linter.unusedSimpArgs false
/-- texts put together, and how long they are with 100 for each -/
def catW : List ByteArray → ByteArray := fun l => l.foldl (· ++ ·) ⟨#[]⟩
def sumN (l : List ByteArray) : Nat := (l.map fun s => s.size + 100).sum
theorem catW_take (l : List ByteArray) (i : Nat) (y : ByteArray) (h : l[i]? = some y) : catW (l.take (i + 1)) = catW (l.take i) ++ y := by
  obtain ⟨hi, rfl⟩ := List.getElem?_eq_some_iff.1 h
  rw [← List.take_append_getElem hi, catW, List.foldl_append]
  rfl
theorem sumN_take (l : List ByteArray) (i : Nat) (y : ByteArray) (h : l[i]? = some y) : sumN (l.take (i + 1)) = sumN (l.take i) + y.size + 100 := by
  obtain ⟨hi, rfl⟩ := List.getElem?_eq_some_iff.1 h
  rw [← List.take_append_getElem hi, sumN, List.map_append, List.sum_append]
  simp [sumN]
  omega
theorem catW_size (l : List ByteArray) : ∀ i, i ≤ l.length → (catW (l.take i)).size ≤ sumN (l.take i) := by
  intro i
  induction i with
  | zero => intro _; exact Nat.zero_le _
  | succ i ih =>
    intro h
    have hy : l[i]? = some l[i] := List.getElem?_eq_getElem (by omega)
    rw [catW_take l i _ hy, sumN_take l i _ hy, ByteArray.size_append]
    have := ih (by omega)
    omega
theorem sumN_mono (l : List ByteArray) (i : Nat) (h : i < l.length) : sumN (l.take i) ≤ sumN (l.take (i + 1)) := by
  rw [sumN_take l i _ (List.getElem?_eq_getElem h)]
  omega
theorem sumN_le (l : List ByteArray) (i : Nat) : ∀ d, i + d = l.length → sumN (l.take i) ≤ sumN l := by
  intro d
  induction d generalizing i with
  | zero => intro h; rw [List.take_of_length_le (by omega)]; exact Nat.le_refl _
  | succ d ih => intro h; exact Nat.le_trans (sumN_mono l i (by omega)) (ih (i + 1) (by omega))
set_option maxHeartbeats 8000000 in
theorem ShaAdds_walk (u0 : Option Addr) (c0 : Nat) (a0 : List ByteArray) (w : World) (w0 : In w u0 a0) :
    Calls Try.prog 3 #[.slice u0 a0.length c0] w fun e w' => e = .returned (.bool true) ∧ Below w.heap.size w w' := by
  have HI := Aside0.mk w0
  have HB : Aside0 (Below w.heap.size w w) := ⟨Below.refl _ _⟩
  have hlen : (a0.length : Int) ≤ 140737488351232 := by have := w0.many; omega
  clear w0
  go_enter Try.func3, Try.ntmps3
  go_wp2
  go_loopg [3, 4] a0.length (fun gg s3 s4 wr => ∃ i : Nat, i + gg = a0.length ∧ s4 = .int .i64 i ∧ s3 = .int .i64 ((sumN (a0.take i) : Nat) : Int) ∧ sumN (a0.take i) ≤ 140737488356000 ∧ w = wr)
  case atStart => exact ⟨0, by omega, rfl, by simp [sumN], by simp [sumN], rfl⟩
  case round =>
    obtain ⟨i, hi, rfl, rfl, hsn, rfl⟩ := hrel
    obtain ⟨n, hn⟩ : ∃ n, n = sumN (a0.take i) := ⟨_, rfl⟩
    rw [← hn] at hsn ⊢
    have HN := Aside0.mk hn
    cases gk with
    | zero =>
      have hin : i = a0.length := by omega
      subst hin
      have hlt : ¬ ((a0.length : Int) < (a0.length : Int)) := by omega
      rw [List.take_length] at HN
      clear hn hi
      by_cases h4 : 4000 ≤ n
      · have h4i : (4000 : Int) ≤ (n : Int) := by omega
        clear h4
        go_wp2
        go_ret
        exact ⟨rfl, HB.out⟩
      · have h4i : ¬ ((4000 : Int) ≤ (n : Int)) := by omega
        have HT : Aside0 (∀ i, i ≤ a0.length → (catW (a0.take i)).size < 4000) := ⟨fun i hi => by
          have h1 := catW_size a0 i hi
          have h2 := sumN_le a0 i (a0.length - i) (by omega)
          have := HN.out
          omega⟩
        clear h4 hsn
        go_wp2_with (go_at_call 14; (with_reducible refine (new_ate _).mono ?_); rintro e w2 ⟨rfl, hn, hb⟩; have H1 := Aside0.mk (OneH.new hn hb HB.out); clear HB hn hb)
        obtain ⟨g, hg⟩ : ∃ g, g = w.heap.size := ⟨_, rfl⟩
        have HG := Aside0.mk hg
        rw [← hg] at H1 ⊢
        clear hg
        go_loopg [6, 7] a0.length (fun gg s6 s7 wr => ∃ i : Nat, i + gg = a0.length ∧ s7 = .int .i64 i ∧ s6 = .string (catW (a0.take i)) ∧ OneH w g (catW (a0.take i)) wr)
        case atStart => exact ⟨0, by omega, rfl, rfl, H1.out⟩
        case round =>
          obtain ⟨i, hi, rfl, rfl, hone⟩ := hrel
          clear H1
          have H1 := Aside0.mk hone
          clear hone
          have hxz : (catW (a0.take i)).size < 4000 := HT.out i (by omega)
          obtain ⟨x, hx⟩ : ∃ x, x = catW (a0.take i) := ⟨_, rfl⟩
          rw [← hx] at hxz H1 ⊢
          have HX := Aside0.mk hx
          have HXZ := Aside0.mk hxz
          clear hx hxz
          cases gk with
          | zero =>
            have hin : i = a0.length := by omega
            subst hin
            clear hi
            go_wp2_with (first
              | (go_at_call 17; (with_reducible refine (sum_ate x (by have := HXZ.out; omega) _ _ H1.out.hg).mono ?_); rintro e w7 ⟨rfl, hb⟩; have n1 := Aside0.mk (H1.out.go hb); clear H1 hb; have H1 := n1; clear n1)
              | (go_at_call 18; (with_reducible refine (refSum_any x (by have := HXZ.out; omega) _).mono ?_); rintro e w8 ⟨rfl, hb⟩; have n1 := Aside0.mk (H1.out.go hb); clear H1 hb; have H1 := n1; clear n1))
            go_ret
            exact ⟨rfl, H1.out.bel⟩
          | succ gk2 =>
            have hlt2 : (i : Int) < (a0.length : Int) := by omega
            obtain ⟨y, hy⟩ : ∃ y, a0[i]? = some y := ⟨a0[i]'(by omega), List.getElem?_eq_getElem _⟩
            obtain ⟨ad, rfl⟩ := HI.out.ex hy
            have hcell := HI.out.at_ H1.out.bel rfl hy
            have h0i : (0 : Int) ≤ (i : Int) := by omega
            have hz : x ++ y = catW (a0.take (i + 1)) := by rw [catW_take a0 i y hy, HX.out]
            have hzz : (x ++ y).size < 4000 := by rw [hz]; exact HT.out (i + 1) (by omega)
            have HZ := Aside0.mk (And.intro hz hzz)
            have hs2 : x.size + y.size < 4000 := by rw [← ByteArray.size_append]; exact hzz
            have HS2 := Aside0.mk hs2
            have HQ1 : Aside0 (x.size + (⟨#[63]⟩ : ByteArray).size ≤ 140737488355000) := ⟨by show x.size + 1 ≤ _; have := HXZ.out; omega⟩
            have l1 : (9223372036854775807 < x.size + y.size) = False := eq_false (by omega)
            have HI2 := Aside0.mk hi
            have HAT : Aside0 (∀ w', Below w.heap.size w w' → w'.cell? (ad.add i) = some (.string y)) := ⟨fun w' hb => HI.out.at_ hb rfl hy⟩
            clear hz hzz hs2 hy hi
            go_wp2_with (first
              | (go_at_call 15; (with_reducible refine (copy_ate x _ _ H1.out.hg).mono ?_); rintro e w4 ⟨rfl, ha, hb⟩; have H2 := Aside0.mk (H1.out.copy ha hb); clear H1 ha hb; have hcell := HAT.out _ H2.out.bel)
              | (go_at_call 16; (with_reducible refine (add_ate x y (by have := HS2.out; omega) _ _ H2.out.hg).mono ?_); rintro e w5 ⟨rfl, ha, hb⟩; have H3 := Aside0.mk (H2.out.addG ha hb); clear H2 ha hb hcell; have hcell := HAT.out _ H3.out.bel)
              | (go_at_call 17; (with_reducible refine (sum_ate x (by have := HXZ.out; omega) _ _ H3.out.hk).mono ?_); rintro e w6 ⟨rfl, hb⟩; have n1 := Aside0.mk (H3.out.go hb); clear H3 hb hcell; have H3 := n1; clear n1)
              | (go_at_call 18; (with_reducible refine (refSum_any x (by have := HXZ.out; omega) _).mono ?_); rintro e w7 ⟨rfl, hb⟩; have n1 := Aside0.mk (H3.out.go hb); clear H3 hb; have H3 := n1; clear n1)
              | (go_at_call 16; (with_reducible refine (add_ate x ⟨#[63]⟩ HQ1.out _ _ H3.out.hk).mono ?_); rintro e w8 ⟨rfl, ha, hb⟩; have H4 := Aside0.mk (H3.out.addK ha hb); clear H3 ha hb; have hcell := HAT.out _ H4.out.bel)
              | (go_at_call 17; (with_reducible refine (sum_ate (x ++ y) (by have := HZ.out; omega) _ _ H4.out.hg).mono ?_); rintro e w9 ⟨rfl, hb⟩; have n1 := Aside0.mk (H4.out.go hb); clear H4 hb hcell; have H4 := n1; clear n1)
              | (go_at_call 18; (with_reducible refine (refSum_any (x ++ y) (by have := HZ.out; omega) _).mono ?_); rintro e w10 ⟨rfl, hb⟩; have n1 := Aside0.mk (H4.out.go hb); clear H4 hb; have H4 := n1; clear n1))
            go_roundg gk2
            case measure => omega
            case rel => exact ⟨i + 1, by have := HI2.out; omega, rfl, by rw [HZ.out.1], by rw [← HZ.out.1]; exact ⟨H4.out.hg, H4.out.bel, H4.out.bg⟩⟩
    | succ gk =>
      have hlt : (i : Int) < (a0.length : Int) := by omega
      by_cases h4 : 4000 ≤ n
      · have h4i : (4000 : Int) ≤ (n : Int) := by omega
        have h4j : ¬ ((n : Int) < 4000) := by omega
        clear h4 hn hi
        go_wp2
        go_ret
        exact ⟨rfl, HB.out⟩
      · have h4j : (n : Int) < 4000 := by omega
        obtain ⟨y, hy⟩ : ∃ y, a0[i]? = some y := ⟨a0[i]'(by omega), List.getElem?_eq_getElem _⟩
        obtain ⟨ad, rfl⟩ := HI.out.ex hy
        have hcell := HI.out.at_ HB.out rfl hy
        have hyz : y.size ≤ 140737488351232 := HI.out.each y (List.mem_of_getElem? hy)
        have hyi : (y.size : Int) ≤ 140737488351232 := by omega
        have h0i : (0 : Int) ≤ (i : Int) := by omega
        have HST := Aside0.mk (sumN_take a0 i y hy)
        have HI2 := Aside0.mk (And.intro hi hyz)
        clear h4 hn hi hyz hy hsn
        go_wp2
        go_roundg gk
        case measure => omega
        case rel =>
          have h1 := HST.out
          have h2 := HN.out
          have h3 := HI2.out
          refine ⟨i + 1, by omega, rfl, ?_, by omega, rfl⟩
          rw [show ((sumN (a0.take (i + 1)) : Nat) : Int) = (n : Int) + (y.size : Int) + 100 by omega]
end Go.Proofs.Ytbafbpfpnfnikaa.Given
