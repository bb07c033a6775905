/- The walk of hamperlaw09.AesBlocks: what the program makes of any blocks is the document's. Conditions: none but the statement's own. -/
import Derived.Test.YtfbcgpgpfpnpnaaRefF
namespace Go.Proofs.Ytfbcgpgpfpnpnaa.Given
open Go.RowKit Go.Proofs.YtfbcgpgpfpnpnaaW.PrintWords Go.Proofs.YtfbcgpgpfpnpnaaW.PrintLast Go.Proofs.YtfbcgpgpfpnpnaaW.PrintMore
open Go.Proofs.Ytfbcgpgpfpnpnaa.Row Go.Proofs.Ytfbcgpgpfpnpnaa.Aes Go.Proofs.Ytfbcgpgpfpnpnaa.Row.At
set_option maxRecDepth 100000
set_option linter.unusedVariables false
set_option linter.unusedSimpArgs false
/-- the blocks among texts -/
def fineL (l : List ByteArray) : List ByteArray := l.filter fun b => decide (b.size = 16)
theorem fineL_hit (l : List ByteArray) (i : Nat) (b : ByteArray) (h : l[i]? = some b) (hb : b.size = 16) : fineL (l.take (i + 1)) = fineL (l.take i) ++ [b] := by
  obtain ⟨hi, rfl⟩ := List.getElem?_eq_some_iff.1 h
  rw [← List.take_append_getElem hi, fineL, List.filter_append]
  simp [fineL, hb]
theorem fineL_miss (l : List ByteArray) (i : Nat) (b : ByteArray) (h : l[i]? = some b) (hb : b.size ≠ 16) : fineL (l.take (i + 1)) = fineL (l.take i) := by
  obtain ⟨hi, rfl⟩ := List.getElem?_eq_some_iff.1 h
  rw [← List.take_append_getElem hi, fineL, List.filter_append]
  simp [fineL, hb]
theorem fineL_size (l : List ByteArray) : ∀ b ∈ fineL l, b.size = 16 := fun b hb => by
  have := (List.mem_filter.1 hb).2
  simpa using this
theorem fineL_length (l : List ByteArray) (i : Nat) : (fineL (l.take i)).length ≤ l.length := by
  refine Nat.le_trans (List.length_filter_le _ _) ?_
  rw [List.length_take]
  omega
theorem fineL_at (l : List ByteArray) (i : Nat) (b : ByteArray) (h : l[i]? = some b) (hb : b.size = 16) : (fineL l)[(fineL (l.take i)).length]? = some b := by
  have e : fineL l = fineL (l.take i) ++ fineL (l.drop i) := by
    rw [fineL, fineL, fineL, ← List.filter_append, List.take_append_drop]
  obtain ⟨hi, rfl⟩ := List.getElem?_eq_some_iff.1 h
  have hd : fineL (l.drop i) = l[i] :: fineL (l.drop (i + 1)) := by
    rw [List.drop_eq_getElem_cons hi, fineL, List.filter_cons_of_pos (by simpa using hb)]
    rfl
  rw [e, List.getElem?_append_right (Nat.le_refl _), Nat.sub_self, hd]
  rfl
theorem Has.appendedS {w w2 w3 : World} {g : Nat} {kb : List UInt8} {l : List ByteArray} {v v' : Value} {s : ByteArray} {o : Obj} (h : Has w w2 g kb) (hS : Strs w.heap.size v l w2)
    (ho : w3.ownsRow w.heap.size 9 1 v' (l.length + 1) (l.map Value.string ++ [.string s])) (hg : (w2.alloc o).grownBy w3 v.ownBlock) : Has w w3 g kb ∧ Strs w.heap.size v' (l ++ [s]) w3 :=
  ⟨⟨(h.cip.alloc o).grown (hS.alloc o) (by decide) hg, (h.bel.alloc h.bel.size o).grown hg (by have := h.bel.size; simp; omega) (fun k e => (hS.lt k e).1)⟩, Strs.append ho⟩
theorem in_of_strs {B : Nat} {a : Option Addr} {n c : Nat} {l : List ByteArray} {w : World} (h : Strs B (.slice a n c) l w) (hm : l.length ≤ 1000) (hs : ∀ s ∈ l, s.size = 16) : In w a l := by
  rcases h.2 with ⟨h1, h2⟩ | ⟨g, cap, cur, h1, _⟩
  · simp only [Value.slice.injEq] at h1
    obtain ⟨rfl, _, _⟩ := h1
    have hl : l = [] := List.length_eq_zero_iff.1 h2
    subst hl
    exact ⟨fun _ => rfl, fun x hx => (by cases hx), by simp, by simp⟩
  · simp only [Value.slice.injEq] at h1
    obtain ⟨rfl, rfl, rfl⟩ := h1
    refine ⟨fun hh => (by cases hh), fun x hx i s hi => ?_, by omega, fun s hs2 => (by rw [hs s hs2]; decide)⟩
    obtain rfl := Option.some.inj hx
    rw [Addr.add_mid, Nat.zero_add]
    exact h.cell i s hi
set_option maxHeartbeats 100000000 in
theorem AesBlocks_walk (a0 : ByteArray) (u1 : Option Addr) (c1 : Nat) (a1 : List ByteArray) (w : World) (w0 : a0.size ≤ 140737488351232) (w1 : In w u1 a1) :
    Calls Try.prog 4 #[.string a0, .slice u1 a1.length c1] w fun e w' => e = .returned (.bool true) ∧ Below w.heap.size w w' := by
  have HB := Aside0.mk (Below.refl w.heap.size w)
  have HI := Aside0.mk w1
  clear w0 w1
  by_cases hm : 60 < a1.length
  · have hm2 : (60 : Int) < (a1.length : Int) := by omega
    clear hm
    go_enter Try.func4, Try.ntmps4
    go_wp2
    go_ret
    exact ⟨rfl, HB.out⟩
  have hm2 : ¬ ((60 : Int) < (a1.length : Int)) := by omega
  have HM := Aside0.mk hm
  clear hm
  by_cases hk : a0.size = 32
  · have HK := Aside0.mk hk
    have hk2 : ((a0.size : Int) != 32) = false := by rw [hk]; rfl
    clear hk
    go_enter Try.func4, Try.ntmps4
    go_wp2_with (go_at_call 17; (with_reducible refine (new_ok a0 HK.out _).mono ?_); rintro e wa ⟨rfl, hc, hb⟩; have HC := Aside0.mk (Has.mk hc (below_go HB.out hb)); clear HB hc hb)
    obtain ⟨g, hg⟩ : ∃ g, g = w.heap.size := ⟨_, rfl⟩
    rw [← hg] at HC ⊢
    have HG := Aside0.mk hg
    clear hg
    obtain ⟨i0, z0, hi0, hz0, hz1, hz2, hz3⟩ := strInfo
    have HI0 := Aside0.mk hi0
    have HZ := Aside0.mk (And.intro hz0 (And.intro hz1 (And.intro hz2 hz3)))
    clear hi0 hz0 hz1 hz2 hz3
    go_loopg [7, 8] a1.length (fun gg s7 s8 wx => ∃ i : Nat, i + gg = a1.length ∧ s8 = .int .i64 i ∧ Strs w.heap.size s7 (fineL (a1.take i)) wx ∧ Has w wx g a0.data.toList)
    case atStart => exact ⟨0, by omega, rfl, Strs.nil _ _, HC.out⟩
    case round =>
      obtain ⟨i, hi, rfl, hS, hC⟩ := hrel
      clear HC
      have HC := Aside0.mk hC
      have HS := Aside0.mk hS
      clear hS hC
      cases gk with
      | zero =>
        --@BEGIN BEHIND
        as_aux_lemma =>
          have hin : i = a1.length := by omega
          subst hin
          have hlt : ¬ ((a1.length : Int) < (a1.length : Int)) := by omega
          rw [List.take_length] at HS
          obtain ⟨fl, hfl⟩ : ∃ l, l = fineL a1 := ⟨_, rfl⟩
          have hfs : ∀ s ∈ fl, s.size = 16 := by rw [hfl]; exact fineL_size a1
          have hfn : fl.length ≤ 60 := by
            rw [hfl]
            have h1 := fineL_length a1 a1.length
            rw [List.take_length] at h1
            have := HM.out
            omega
          rw [← hfl] at HS
          obtain ⟨af, cf, rfl⟩ := HS.out.forms
          have HFI := Aside0.mk (in_of_strs HS.out (by omega) hfs)
          have HFS := Aside0.mk hfs
          have HFL := Aside0.mk (And.intro hfl hfn)
          obtain ⟨W0, hW0⟩ : ∃ W, W = wr := ⟨_, rfl⟩
          subst hW0
          have HBW := Aside0.mk (Below.refl W0.heap.size W0)
          have HFI2 : Aside0 (∀ w', Below W0.heap.size W0 w' → In w' af fl) := ⟨fun w' hb => ⟨HFI.out.nil, fun x hx i s hs => HFI.out.at_ hb hx hs, HFI.out.many, HFI.out.each⟩⟩
          clear hi hfl hfs hfn HFI HS
          go_wp2_with (first
            | (go_at_call 19; (with_reducible refine (encs_any a0 HK.out af cf fl HFS.out _ (HFI2.out _ HBW.out)).mono ?_); rintro e wb ⟨v9, rfl, hv, hb⟩; have HV9 := Aside0.mk hv; have n1 := Aside0.mk (HC.out.go hb); have n2 := Aside0.mk (HBW.out.trans (hb.mono HBW.out.size)); clear HC HBW hv hb; have HC := n1; have HBW := n2; clear n1 n2)
            | (go_at_call 20; (with_reducible refine (decs_any a0 HK.out af cf fl HFS.out _ (HFI2.out _ HBW.out)).mono ?_); rintro e wc ⟨v10, rfl, hv, hb⟩; have HV10 := Aside0.mk hv; have n1 := Aside0.mk (HC.out.go hb); have n2 := Aside0.mk (HV9.out.go hb); clear HC HBW HV9 hv hb; have HC := n1; have HV9 := n2; clear n1 n2))
          go_loopg [11, 12] a1.length (fun gg s11 s12 wx => ∃ i : Nat, i + gg = a1.length ∧ s12 = .int .i64 i ∧ s11 = .int .i64 (((fineL (a1.take i)).length : Nat) : Int) ∧ Own wx W0.heap.size 9 v9 (strs (fl.map (encW a0))) ∧ Own wx wb.heap.size 9 v10 (strs (fl.map (decW a0))) ∧ Has w wx g a0.data.toList)
          case atStart => exact ⟨0, by omega, rfl, by simp [fineL], HV9.out, HV10.out, HC.out⟩
          case round =>
            obtain ⟨i, hi, rfl, rfl, h9, h10, hC⟩ := hrel
            clear HC HV9 HV10
            have HC := Aside0.mk hC
            have HV9 := Aside0.mk h9
            have HV10 := Aside0.mk h10
            clear hC h9 h10
            obtain ⟨n, hn⟩ : ∃ n, n = (fineL (a1.take i)).length := ⟨_, rfl⟩
            rw [← hn]
            have HN := Aside0.mk hn
            clear hn
            cases gk with
            | zero =>
              have hin : i = a1.length := by omega
              subst hin
              clear hi
              go_wp2
              go_ret
              exact ⟨rfl, HC.out.bel⟩
            | succ gk1 =>
              have hlt2 : (i : Int) < (a1.length : Int) := by omega
              obtain ⟨b, hb⟩ : ∃ b, a1[i]? = some b := ⟨a1[i]'(by omega), List.getElem?_eq_getElem _⟩
              obtain ⟨x, rfl⟩ := HI.out.ex hb
              have hcell := HI.out.at_ HC.out.bel rfl hb
              have h0i : (0 : Int) ≤ (i : Int) := by omega
              have HBB := Aside0.mk hb
              have HII := Aside0.mk hi
              clear hb hi
              by_cases h16 : b.size = 16
              ·
                --@BEGIN HIT
                as_aux_lemma =>
                  have h16i : ((b.size : Int) != 16) = false := by rw [h16]; rfl
                  have hat := fineL_at a1 i b HBB.out h16
                  rw [← HN.out, ← HFL.out.1] at hat
                  have hnl : n < fl.length := (List.getElem?_eq_some_iff.1 hat).1
                  have h9l : (strs (fl.map (encW a0))).length = fl.length := by rw [strs, List.length_map, List.length_map]
                  have h10l : (strs (fl.map (decW a0))).length = fl.length := by rw [strs, List.length_map, List.length_map]
                  obtain ⟨g9, c9, h9f, _, _⟩ := HV9.out.form h9l (by omega)
                  obtain ⟨g10, c10, h10f, _, _⟩ := HV10.out.form h10l (by omega)
                  subst h9f
                  subst h10f
                  obtain ⟨y, hy⟩ : ∃ y, y = encW a0 b := ⟨_, rfl⟩
                  obtain ⟨z, hz⟩ : ∃ z, z = decW a0 b := ⟨_, rfl⟩
                  have HY9 : Aside0 ((strs (fl.map (encW a0)))[n]? = some (.string y)) := ⟨by rw [strs, List.getElem?_map, List.getElem?_map, hat, hy]; rfl⟩
                  have HZ10 : Aside0 ((strs (fl.map (decW a0)))[n]? = some (.string z)) := ⟨by rw [strs, List.getElem?_map, List.getElem?_map, hat, hz]; rfl⟩
                  have HE : Aside0 (∀ w, At w g 49 (b8s (cipher a0.data.toList)) → Calls Try.prog 14 #[.pointer (some ⟨g, 0, none⟩), .string b] w fun e w' => e = .returned (.tuple #[.string y, .int .i64 0]) ∧ Below w.heap.size w w') := ⟨fun w h => by rw [hy]; exact Encrypt_w a0 b HK.out h16 g w h⟩
                  have HD : Aside0 (∀ w, At w g 49 (b8s (cipher a0.data.toList)) → Calls Try.prog 15 #[.pointer (some ⟨g, 0, none⟩), .string b] w fun e w' => e = .returned (.tuple #[.string z, .int .i64 0]) ∧ Below w.heap.size w w') := ⟨fun w h => by rw [hz]; exact Decrypt_w a0 b HK.out h16 g w h⟩
                  have hni : (n : Int) < (fl.length : Int) := by omega
                  have h0n : (0 : Int) ≤ (n : Int) := by omega
                  have hn60 : (n : Int) ≤ 60 := by have := HFL.out.2; omega
                  have HNX : Aside0 ((fineL (a1.take (i + 1))).length = n + 1) := ⟨by rw [fineL_hit a1 i b HBB.out h16, List.length_append, ← HN.out]; rfl⟩
                  clear h16 hat hnl h9l h10l hy hz
                  go_wp2_with (first
                    | (go_at_call 14; (with_reducible refine (HE.out _ HC.out.cip).mono ?_); rintro e w2 ⟨rfl, hb⟩; have n1 := Aside0.mk (HC.out.go hb); have n2 := Aside0.mk (HV9.out.go hb); have n3 := Aside0.mk (HV10.out.go hb); clear HC HV9 HV10 hb hcell; have HC := n1; have HV9 := n2; have HV10 := n3; clear n1 n2 n3; have hcell := HI.out.at_ HC.out.bel rfl HBB.out)
                    | (go_at_call 15; (with_reducible refine (HD.out _ HC.out.cip).mono ?_); rintro e w3 ⟨rfl, hb⟩; have n1 := Aside0.mk (HC.out.go hb); have n2 := Aside0.mk (HV9.out.go hb); have n3 := Aside0.mk (HV10.out.go hb); clear HC HV9 HV10 hb hcell; have HC := n1; have HV9 := n2; have HV10 := n3; clear n1 n2 n3; have hcell := HI.out.at_ HC.out.bel rfl HBB.out; have hc9 := HV9.out.cell n _ HY9.out; have hc10 := HV10.out.cell n _ HZ10.out))
                  go_roundg gk1
                  case measure => omega
                  case rel => exact ⟨i + 1, by have := HII.out; omega, rfl, by rw [HNX.out]; rfl, HV9.out, HV10.out, HC.out⟩
                  --@END HIT
              ·
                --@BEGIN MISS
                as_aux_lemma =>
                  have h16i : ((b.size : Int) != 16) = true := by rw [bne_iff_ne]; omega
                  have HNX : Aside0 ((fineL (a1.take (i + 1))).length = n) := ⟨by rw [fineL_miss a1 i b HBB.out h16, ← HN.out]⟩
                  have HE : Aside0 (∀ w, Calls Try.prog 14 #[.pointer (some ⟨g, 0, none⟩), .string b] w fun e w' => e = .returned (.tuple #[.string ByteArray.empty, .int .i64 1]) ∧ Below w.heap.size w w') := ⟨fun w => Encrypt_arg b h16 g w⟩
                  have HD : Aside0 (∀ w, Calls Try.prog 15 #[.pointer (some ⟨g, 0, none⟩), .string b] w fun e w' => e = .returned (.tuple #[.string ByteArray.empty, .int .i64 1]) ∧ Below w.heap.size w w') := ⟨fun w => Decrypt_arg b h16 g w⟩
                  clear h16
                  go_wp2_with (first
                    | (go_at_call 14; (with_reducible refine (HE.out _).mono ?_); rintro e w2 ⟨rfl, hb⟩; have n1 := Aside0.mk (HC.out.go hb); have n2 := Aside0.mk (HV9.out.go hb); have n3 := Aside0.mk (HV10.out.go hb); clear HC HV9 HV10 hb hcell; have HC := n1; have HV9 := n2; have HV10 := n3; clear n1 n2 n3; have hcell := HI.out.at_ HC.out.bel rfl HBB.out)
                    | (go_at_call 15; (with_reducible refine (HD.out _).mono ?_); rintro e w3 ⟨rfl, hb⟩; have n1 := Aside0.mk (HC.out.go hb); have n2 := Aside0.mk (HV9.out.go hb); have n3 := Aside0.mk (HV10.out.go hb); clear HC HV9 HV10 hb hcell; have HC := n1; have HV9 := n2; have HV10 := n3; clear n1 n2 n3; have hcell := HI.out.at_ HC.out.bel rfl HBB.out))
                  go_roundg gk1
                  case measure => omega
                  case rel => exact ⟨i + 1, by have := HII.out; omega, rfl, by rw [HNX.out], HV9.out, HV10.out, HC.out⟩
                  --@END MISS
          --@END BEHIND
      | succ gk0 =>
        --@BEGIN FINE
        as_aux_lemma =>
          have hlt : (i : Int) < (a1.length : Int) := by omega
          obtain ⟨b, hb⟩ : ∃ b, a1[i]? = some b := ⟨a1[i]'(by omega), List.getElem?_eq_getElem _⟩
          obtain ⟨x, rfl⟩ := HI.out.ex hb
          have hcell := HI.out.at_ HC.out.bel rfl hb
          have h0i : (0 : Int) ≤ (i : Int) := by omega
          have HBB := Aside0.mk hb
          have HII := Aside0.mk hi
          have HLL : Aside0 ((fineL (a1.take i)).length ≤ 60) := ⟨by have h1 := fineL_length a1 i; have := HM.out; omega⟩
          clear hb hi
          by_cases h16 : b.size = 16
          · have h16i : ((b.size : Int) == 16) = true := by rw [h16]; rfl
            have HE := Aside0.mk (fineL_hit a1 i b HBB.out h16)
            clear h16
            go_wp2_with ((with_reducible refine gate_builtin (b := .append) (xs := #[.tmp 46, .tmp 51]) rfl ?_); at_builtin; (refine wpList_append_own _ rfl _ _ 30 rfl w.heap.size 9 i0 z0 1 16 Try.underlying30 HI0.out HZ.out.1 HZ.out.2.1 HZ.out.2.2.1 HZ.out.2.2.2 (by decide) _ _ _ rfl (HS.out.alloc _) ⟨wr.heap.size, 0, none⟩ 1 1 [.string b] rfl rfl (cell_one_new _ _ _) (by simp [Value.oneCell']) (by have := HLL.out; unfold maxLen; omega) (by have := HLL.out; omega) (by have := HC.out.bel.size; simp; omega) ?_); intro v' w3 hown' hgrow _; have n1 := Aside0.mk (HC.out.appendedS HS.out hown' hgrow); clear HC HS hown' hgrow; have HC := Aside0.mk n1.out.1; have HS := Aside0.mk n1.out.2; clear n1)
            go_roundg gk0
            case measure => omega
            case rel => exact ⟨i + 1, by have := HII.out; omega, rfl, by rw [HE.out]; exact HS.out, HC.out⟩
          · have h16i : ((b.size : Int) == 16) = false := by rw [beq_eq_false_iff_ne]; omega
            have HE := Aside0.mk (fineL_miss a1 i b HBB.out h16)
            clear h16
            go_wp2
            go_roundg gk0
            case measure => omega
            case rel => exact ⟨i + 1, by have := HII.out; omega, rfl, by rw [HE.out]; exact HS.out, HC.out⟩
          --@END FINE
  · have hk2 : ((a0.size : Int) != 32) = true := by rw [bne_iff_ne]; omega
    have HK := Aside0.mk hk
    clear hk
    go_enter Try.func4, Try.ntmps4
    go_wp2_with (go_at_call 17; (with_reducible refine (new_arg a0 HK.out _).mono ?_); rintro e w' ⟨rfl, rfl⟩)
    go_ret
    exact ⟨rfl, HB.out⟩
end Go.Proofs.Ytfbcgpgpfpnpnaa.Given
