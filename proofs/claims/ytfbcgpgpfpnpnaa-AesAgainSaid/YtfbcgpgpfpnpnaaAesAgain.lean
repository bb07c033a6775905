/- The walk of hamperlaw09.AesAgain: a cipher is not changed by what it does. Conditions: none but the statement's own. -/
import Derived.Test.YtfbcgpgpfpnpnaaAesL
import Derived.Test.YtfbcgpgpfpnpnaaStrs
import Derived.Test.YtfbcgpgpfpnpnaaIn
namespace Go.Proofs.Ytfbcgpgpfpnpnaa.Given
open Go.RowKit Go.Proofs.YtfbcgpgpfpnpnaaW.PrintWords Go.Proofs.YtfbcgpgpfpnpnaaW.PrintLast Go.Proofs.YtfbcgpgpfpnpnaaW.PrintMore
open Go.Proofs.Ytfbcgpgpfpnpnaa.Row Go.Proofs.Ytfbcgpgpfpnpnaa.Aes Go.Proofs.Ytfbcgpgpfpnpnaa.Row.At
set_option maxRecDepth 100000
set_option linter.unusedVariables false
set_option linter.unusedSimpArgs false
/-- what becomes of a text, and how it is refused -/
def encR (key b : ByteArray) : ByteArray := if b.size = 16 then encW key b else ⟨#[]⟩
def errR (b : ByteArray) : Int := if b.size = 16 then 0 else 1
/-- Two ciphers of one key, beside what was there before the call. -/
structure Has2 (w wx : World) (g g2 : Nat) (kb : List UInt8) : Prop where
  one : At wx g 49 (b8s (cipher kb))
  two : At wx g2 49 (b8s (cipher kb))
  bel : Below w.heap.size w wx
theorem Has2.go {w wx w2 : World} {g g2 : Nat} {kb : List UInt8} (h : Has2 w wx g g2 kb) (hb : Below wx.heap.size wx w2) : Has2 w w2 g g2 kb :=
  ⟨h.one.below hb h.one.lt, h.two.below hb h.two.lt, h.bel.trans (hb.mono h.bel.size)⟩
theorem Has2.appended {w w2 w3 : World} {g g2 : Nat} {kb : List UInt8} {l : List ByteArray} {v v' : Value} {s : ByteArray} {o : Obj} (h : Has2 w w2 g g2 kb) (hS : Strs w.heap.size v l w2)
    (ho : w3.ownsRow w.heap.size 9 1 v' (l.length + 1) (l.map Value.string ++ [.string s])) (hg : (w2.alloc o).grownBy w3 v.ownBlock) : Has2 w w3 g g2 kb ∧ Strs w.heap.size v' (l ++ [s]) w3 :=
  ⟨⟨(h.one.alloc o).grown (hS.alloc o) (by decide) hg, (h.two.alloc o).grown (hS.alloc o) (by decide) hg, (h.bel.alloc h.bel.size o).grown hg (by have := h.bel.size; simp; omega) (fun k e => (hS.lt k e).1)⟩, Strs.append ho⟩
theorem Enc_r (key b : ByteArray) (hk : key.size = 32) (g : Nat) (w : World) (h2 : At w g 49 (b8s (cipher key.data.toList))) :
    Calls Try.prog 14 #[.pointer (some ⟨g, 0, none⟩), .string b] w fun e w' => e = .returned (.tuple #[.string (encR key b), .int .i64 (errR b)]) ∧ Below w.heap.size w w' := by
  by_cases hb : b.size = 16
  · rw [encR, errR, if_pos hb, if_pos hb]; exact Encrypt_w key b hk hb g w h2
  · rw [encR, errR, if_neg hb, if_neg hb]; exact Encrypt_arg b hb _ _
def firstL (key : ByteArray) (l : List ByteArray) (i : Nat) : List ByteArray := (l.take i).map (encR key)
theorem firstL_length (key : ByteArray) (l : List ByteArray) (i : Nat) (h : i ≤ l.length) : (firstL key l i).length = i := by rw [firstL, List.length_map, List.length_take]; omega
theorem firstL_succ (key : ByteArray) (l : List ByteArray) (i : Nat) (b : ByteArray) (h : l[i]? = some b) : firstL key l i ++ [encR key b] = firstL key l (i + 1) := by
  rw [firstL, firstL, List.take_add_one, h, List.map_append]; rfl
theorem firstL_get (key : ByteArray) (l : List ByteArray) (i n : Nat) (b : ByteArray) (h : l[i]? = some b) (hi : i < n) : (firstL key l n)[i]? = some (encR key b) := by
  rw [firstL, List.getElem?_map, List.getElem?_take, if_pos hi, h]; rfl
set_option maxHeartbeats 8000000 in
theorem AesAgain_walk (a0 : ByteArray) (u1 : Option Addr) (c1 : Nat) (a1 : List ByteArray) (w : World) (w0 : a0.size ≤ 140737488351232) (w1 : In w u1 a1) :
    Calls Try.prog 6 #[.string a0, .slice u1 a1.length c1] w fun e w' => e = .returned (.bool true) ∧ Below w.heap.size w w' := by
  have HB := Aside0.mk (Below.refl w.heap.size w)
  have HI := Aside0.mk w1
  clear w0 w1
  by_cases hk : a0.size = 32
  · have HK := Aside0.mk hk
    clear hk
    by_cases hm : 30 < a1.length
    · have hm2 : (30 : Int) < (a1.length : Int) := by omega
      clear hm
      go_enter Try.func6, Try.ntmps6
      go_wp2_with (first
        | (go_at_call 17; (with_reducible refine (new_ok a0 HK.out _).mono ?_); rintro e w' ⟨rfl, hc, hb⟩; have n1 := Aside0.mk (below_go HB.out hb); clear HB hc hb; have HB := n1; clear n1)
        | (go_at_call 18; (with_reducible refine (works_any _).mono ?_); rintro e w' ⟨rfl, hb⟩; have n1 := Aside0.mk (below_go HB.out hb); clear HB hb; have HB := n1; clear n1))
      go_ret
      exact ⟨rfl, HB.out⟩
    · have hm2 : ¬ ((30 : Int) < (a1.length : Int)) := by omega
      have HM := Aside0.mk hm
      clear hm
      go_enter Try.func6, Try.ntmps6
      go_wp2_with (first
        | (go_at_call 17; (with_reducible refine (new_ok a0 HK.out _).mono ?_); rintro e wa ⟨rfl, hc, hb⟩; have HC1 := Aside0.mk (Has.mk hc (below_go HB.out hb)); clear HB hc hb)
        | (go_at_call 17; (with_reducible refine (new_ok a0 HK.out _).mono ?_); rintro e wb ⟨rfl, hc, hb⟩; have HC := Aside0.mk (Has2.mk (HC1.out.go hb).cip hc (HC1.out.go hb).bel); clear HC1 hc hb)
        | (go_at_call 18; (with_reducible refine (works_any _).mono ?_); rintro e w' ⟨rfl, hb⟩; have n1 := Aside0.mk (HC.out.go hb); clear HC hb; have HC := n1; clear n1))
      obtain ⟨g, hg⟩ : ∃ g, g = w.heap.size := ⟨_, rfl⟩
      obtain ⟨g2, hg2⟩ : ∃ g2, g2 = wa.heap.size := ⟨_, rfl⟩
      rw [← hg, ← hg2] at HC ⊢
      have HG := Aside0.mk hg
      clear hg hg2
      obtain ⟨i0, z0, hi0, hz0, hz1, hz2, hz3⟩ := strInfo
      have HI0 := Aside0.mk hi0
      have HZ := Aside0.mk (And.intro hz0 (And.intro hz1 (And.intro hz2 hz3)))
      clear hi0 hz0 hz1 hz2 hz3
      go_loopg [9, 10] a1.length (fun gg s9 s10 wx => ∃ i : Nat, i + gg = a1.length ∧ s10 = .int .i64 i ∧ Strs w.heap.size s9 (firstL a0 a1 i) wx ∧ Has2 w wx g g2 a0.data.toList)
      case atStart => exact ⟨0, by omega, rfl, Strs.nil _ _, HC.out⟩
      case round =>
        obtain ⟨i, hi, rfl, hS, hC⟩ := hrel
        clear HC
        have HC := Aside0.mk hC
        have HS := Aside0.mk hS
        clear hS hC
        have HMI := HM.out
        cases gk with
        | zero =>
          have hin : i = a1.length := by omega
          subst hin
          have hlt : ¬ ((a1.length : Int) < (a1.length : Int)) := by omega
          go_wp2
          go_loopg [13] a1.length (fun gg s13 wx => gg ≤ a1.length ∧ s13 = .int .i64 ((gg : Int) - 1) ∧ Strs w.heap.size u9 (firstL a0 a1 a1.length) wx ∧ Has2 w wx g g2 a0.data.toList)
          case atStart => exact ⟨Nat.le_refl _, rfl, HS.out, HC.out⟩
          case round =>
            obtain ⟨hgi, rfl, hS, hC⟩ := hrel
            clear HC HS
            have HC := Aside0.mk hC
            have HS := Aside0.mk hS
            clear hS hC
            cases gk with
            | zero =>
              go_wp2
              go_ret
              exact ⟨rfl, HC.out.bel⟩
            | succ gk =>
              obtain ⟨b, hb⟩ : ∃ b, a1[gk]? = some b := ⟨a1[gk]'(by omega), List.getElem?_eq_getElem _⟩
              obtain ⟨x, rfl⟩ := HI.out.ex hb
              obtain ⟨sg, cap, rfl⟩ := HS.out.formN (firstL_length a0 a1 a1.length (Nat.le_refl _)) (by omega)
              have hcell := HI.out.at_ HC.out.bel rfl hb
              have hcell2 := HS.out.cell gk _ (firstL_get a0 a1 gk a1.length b hb (by omega))
              have q1 : ((gk + 1 : Nat) : Int) - 1 = (gk : Int) := by omega
              rw [q1]
              have q2 : (0 : Int) ≤ (gk : Int) := by omega
              have q3 : (gk : Int) < (a1.length : Int) := by omega
              have HBB := Aside0.mk hb
              clear hb
              by_cases h16 : b.size = 16
              · have h16i : (b.size : Int) = 16 := by omega
                obtain ⟨y, hy⟩ : ∃ y, y = encW a0 b := ⟨_, rfl⟩
                have HEq : Aside0 (encR a0 b = y) := ⟨by rw [encR, if_pos h16, hy]⟩
                have HE : Aside0 (∀ k w, At w k 49 (b8s (cipher a0.data.toList)) → Calls Try.prog 14 #[.pointer (some ⟨k, 0, none⟩), .string b] w fun e w' => e = .returned (.tuple #[.string y, .int .i64 0]) ∧ Below w.heap.size w w') := ⟨fun k w h => by rw [hy]; exact Encrypt_w a0 b HK.out h16 k w h⟩
                have HD : Aside0 (∀ k w, At w k 49 (b8s (cipher a0.data.toList)) → Calls Try.prog 15 #[.pointer (some ⟨k, 0, none⟩), .string y] w fun e w' => e = .returned (.tuple #[.string b, .int .i64 0]) ∧ Below w.heap.size w w') := ⟨fun k w h => by
                  have := Decrypt_w a0 y HK.out (by rw [hy]; exact encW_size _ _) k w h
                  rw [hy, decW_encW a0 b HK.out h16, ← hy] at this
                  exact this⟩
                rw [HEq.out] at hcell2
                clear hy h16
                go_wp2_with (first
                  | (go_at_call 15; (with_reducible refine (HD.out _ _ HC.out.one).mono ?_); rintro e w2 ⟨rfl, hb⟩; have n1 := Aside0.mk (HC.out.go hb); have n2 := Aside0.mk (HS.out.below hb (Nat.le_refl _)); clear HC HS hb; have HC := n1; have HS := n2; clear n1 n2; clear hcell hcell2; have hcell := HI.out.at_ HC.out.bel rfl HBB.out; have hcell2 := HS.out.cell gk _ (firstL_get a0 a1 gk a1.length b HBB.out (by omega)); rw [HEq.out] at hcell2)
                  | (go_at_call 14; (first | (with_reducible refine (HE.out _ _ HC.out.one).mono ?_) | (with_reducible refine (HE.out _ _ HC.out.two).mono ?_)); rintro e w2 ⟨rfl, hb⟩; have n1 := Aside0.mk (HC.out.go hb); have n2 := Aside0.mk (HS.out.below hb (Nat.le_refl _)); clear HC HS hb; have HC := n1; have HS := n2; clear n1 n2; clear hcell hcell2; have hcell := HI.out.at_ HC.out.bel rfl HBB.out; have hcell2 := HS.out.cell gk _ (firstL_get a0 a1 gk a1.length b HBB.out (by omega)); rw [HEq.out] at hcell2))
                go_roundg gk
                case measure => omega
                case rel => exact ⟨by omega, rfl, HS.out, HC.out⟩
              · have h16i : ((b.size : Int) == 16) = false := by rw [beq_eq_false_iff_ne]; omega
                have HEq : Aside0 (encR a0 b = ByteArray.empty) := ⟨by rw [encR, if_neg h16]; rfl⟩
                have HE : Aside0 (∀ k w, At w k 49 (b8s (cipher a0.data.toList)) → Calls Try.prog 14 #[.pointer (some ⟨k, 0, none⟩), .string b] w fun e w' => e = .returned (.tuple #[.string ByteArray.empty, .int .i64 1]) ∧ Below w.heap.size w w') := ⟨fun k w h => Encrypt_arg b h16 k w⟩
                have HD : Aside0 (∀ k w, At w k 49 (b8s (cipher a0.data.toList)) → Calls Try.prog 15 #[.pointer (some ⟨k, 0, none⟩), .string ByteArray.empty] w fun e w' => e = .returned (.tuple #[.string ByteArray.empty, .int .i64 1]) ∧ Below w.heap.size w w') := ⟨fun k w h => Decrypt_arg _ (by decide) k w⟩
                rw [HEq.out] at hcell2
                clear h16
                go_wp2_with (first
                  | (go_at_call 15; (with_reducible refine (HD.out _ _ HC.out.one).mono ?_); rintro e w2 ⟨rfl, hb⟩; have n1 := Aside0.mk (HC.out.go hb); have n2 := Aside0.mk (HS.out.below hb (Nat.le_refl _)); clear HC HS hb; have HC := n1; have HS := n2; clear n1 n2; clear hcell hcell2; have hcell := HI.out.at_ HC.out.bel rfl HBB.out; have hcell2 := HS.out.cell gk _ (firstL_get a0 a1 gk a1.length b HBB.out (by omega)); rw [HEq.out] at hcell2)
                  | (go_at_call 14; (first | (with_reducible refine (HE.out _ _ HC.out.one).mono ?_) | (with_reducible refine (HE.out _ _ HC.out.two).mono ?_)); rintro e w2 ⟨rfl, hb⟩; have n1 := Aside0.mk (HC.out.go hb); have n2 := Aside0.mk (HS.out.below hb (Nat.le_refl _)); clear HC HS hb; have HC := n1; have HS := n2; clear n1 n2; clear hcell hcell2; have hcell := HI.out.at_ HC.out.bel rfl HBB.out; have hcell2 := HS.out.cell gk _ (firstL_get a0 a1 gk a1.length b HBB.out (by omega)); rw [HEq.out] at hcell2))
                go_roundg gk
                case measure => omega
                case rel => exact ⟨by omega, rfl, HS.out, HC.out⟩
        | succ gk =>
          have hlt : (i : Int) < (a1.length : Int) := by omega
          obtain ⟨b, hb⟩ : ∃ b, a1[i]? = some b := ⟨a1[i]'(by omega), List.getElem?_eq_getElem _⟩
          obtain ⟨x, rfl⟩ := HI.out.ex hb
          have hcell := HI.out.at_ HC.out.bel rfl hb
          have h0i : (0 : Int) ≤ (i : Int) := by omega
          have HBB := Aside0.mk hb
          have HLL := Aside0.mk (firstL_length a0 a1 i (by omega))
          clear hb
          go_wp2_with (first
            | (go_at_call 14; (with_reducible refine (Enc_r a0 b HK.out _ _ HC.out.one).mono ?_); rintro e w2 ⟨rfl, hb⟩; have n1 := Aside0.mk (HC.out.go hb); have n2 := Aside0.mk (HS.out.below hb (Nat.le_refl _)); clear HC HS hb; have HC := n1; have HS := n2; clear n1 n2)
            | ((with_reducible refine gate_builtin (b := .append) (xs := #[.tmp 66, .tmp 68]) rfl ?_); at_builtin; (refine wpList_append_own _ rfl _ _ 30 rfl w.heap.size 9 i0 z0 1 16 Try.underlying30 HI0.out HZ.out.1 HZ.out.2.1 HZ.out.2.2.1 HZ.out.2.2.2 (by decide) _ _ _ rfl (HS.out.alloc _) ⟨w2.heap.size, 0, none⟩ 1 1 [.string (encR a0 b)] rfl rfl (cell_one_new _ _ _) (by simp [Value.oneCell']) (by have := HM.out; rw [HLL.out]; unfold maxLen; omega) (by have := HM.out; rw [HLL.out]; omega) (by have := HC.out.bel.size; simp; omega) ?_); intro v' w3 hown' hgrow _; have n1 := Aside0.mk (HC.out.appended HS.out hown' hgrow); clear HC HS hown' hgrow; have HC := Aside0.mk n1.out.1; have HS := Aside0.mk n1.out.2; clear n1; rw [firstL_succ a0 a1 i b HBB.out] at HS))
          go_roundg gk
          case measure => omega
          case rel => exact ⟨i + 1, by omega, rfl, HS.out, HC.out⟩
  · have HK := Aside0.mk hk
    clear hk
    go_enter Try.func6, Try.ntmps6
    go_wp2_with (first
      | (go_at_call 17; (with_reducible refine (new_arg a0 HK.out _).mono ?_); rintro e w' ⟨rfl, rfl⟩)
      | (go_at_call 18; (with_reducible refine (works_any _).mono ?_); rintro e w' ⟨rfl, hb⟩; have n1 := Aside0.mk (below_go HB.out hb); clear HB hb; have HB := n1; clear n1))
    go_ret
    exact ⟨rfl, HB.out⟩
end Go.Proofs.Ytfbcgpgpfpnpnaa.Given
