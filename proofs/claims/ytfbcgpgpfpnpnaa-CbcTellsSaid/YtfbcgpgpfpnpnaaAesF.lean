/- Contracts of aes' Encrypt and Decrypt, and of how keys and blocks are refused. Conditions: the cipher lies in memory as New made it. -/
import Derived.Test.YtfbcgpgpfpnpnaaAesE
import Derived.Test.YtfbcgpgpfpnpnaaAesN
namespace Go.Proofs.Ytfbcgpgpfpnpnaa.Given
open Go.RowKit Go.Proofs.YtfbcgpgpfpnpnaaW.PrintWords Go.Proofs.YtfbcgpgpfpnpnaaW.PrintLast Go.Proofs.YtfbcgpgpfpnpnaaW.PrintMore
open Go.Proofs.Ytfbcgpgpfpnpnaa.Row Go.Proofs.Ytfbcgpgpfpnpnaa.Aes Go.Proofs.Ytfbcgpgpfpnpnaa.Row.At
set_option maxRecDepth 100000
set_option linter.unusedVariables false
set_option linter.unusedSimpArgs false
attribute [-simp] Try.isAgg49 Try.isAgg44
theorem asked_ok (g : Nat) (s : ByteArray) (hs : s.size = 16) (w : World) :
    Calls Try.prog 28 #[.pointer (some ⟨g, 0, none⟩), .string s] w fun e w' => e = .returned (.int .i64 0) ∧ w = w' := by
  have h : ((s.size : Int) != 16) = false := by rw [hs]; rfl
  clear hs
  go_enter Try.func28, Try.ntmps28
  go_wp2
  go_ret
  exact ⟨rfl, rfl⟩
theorem asked_arg (g : Nat) (s : ByteArray) (hs : s.size ≠ 16) (w : World) :
    Calls Try.prog 28 #[.pointer (some ⟨g, 0, none⟩), .string s] w fun e w' => e = .returned (.int .i64 1) ∧ w = w' := by
  have h : ((s.size : Int) != 16) = true := by
    rw [bne_iff_ne]
    omega
  clear hs
  go_enter Try.func28, Try.ntmps28
  go_wp2
  go_ret
  exact ⟨rfl, rfl⟩
theorem asked_nil (s : ByteArray) (w : World) :
    Calls Try.prog 28 #[.pointer none, .string s] w fun e w' => e = .returned (.int .i64 2) ∧ w = w' := by
  go_enter Try.func28, Try.ntmps28
  go_wp2
  go_ret
  exact ⟨rfl, rfl⟩
theorem new_arg (key : ByteArray) (hk : key.size ≠ 32) (w : World) :
    Calls Try.prog 17 #[.string key] w fun e w' => e = .returned (.tuple #[.pointer none, .int .i64 1]) ∧ w = w' := by
  have h : ((key.size : Int) != 32) = true := by
    rw [bne_iff_ne]
    omega
  clear hk
  go_enter Try.func17, Try.ntmps17
  go_wp2
  go_ret2
  exact ⟨rfl, rfl⟩
theorem toList_length (s : ByteArray) : s.data.toList.length = s.size := Array.length_toList
theorem spl_all (n : Nat) (l m : List UInt8) (h : m.length = n) (hl : l.length = n) : spl l 0 (m.take n) = m := by
  rw [spl, List.take_zero, List.nil_append, List.take_of_length_le (show m.length ≤ n by omega), Nat.zero_add, h, List.drop_of_length_le (by omega), List.append_nil]

set_option maxHeartbeats 1000000 in
set_option maxRecDepth 100000 in
theorem each_enc (C : List UInt8) (s : ByteArray) (hC : C.length = 752) (hs : s.size = 16) (g gc : Nat) (w : World) (h1 : At w gc 22 [.pointer (some ⟨g, 0, none⟩)]) (h2 : At w g 49 (b8s C)) :
    Calls Try.prog 29 #[.string s, .func (.func 30) #[] #[.pointer (some ⟨gc, 0, none⟩)]] w fun e w' => e = .returned (.string ⟨(steps (encRound C) s.data.toList 15).toArray⟩) ∧ Below w.heap.size w w' := by
  have HS := Aside0.mk hs
  have HCL := Aside0.mk hC
  have H1 := Aside0.mk h1
  have H2 := Aside0.mk h2
  clear h1 h2 hs hC
  have HB : Aside0 (Below w.heap.size w (w.alloc (.cells #[.int .u8 0, .int .u8 0, .int .u8 0, .int .u8 0, .int .u8 0, .int .u8 0, .int .u8 0, .int .u8 0, .int .u8 0, .int .u8 0, .int .u8 0, .int .u8 0, .int .u8 0, .int .u8 0, .int .u8 0, .int .u8 0] 44 (0, 0)))) := ⟨(Below.refl _ w).alloc (Nat.le_refl _) _⟩
  have hbl : s.data.toList.length = 16 := by rw [toList_length, HS.out]
  have HBL := Aside0.mk hbl
  clear hbl
  go_enter Try.func29, Try.ntmps29
  go_wp2_with ((with_reducible refine gate_dst (N := 9) rfl ?_); refine (At.zeros (w := w) rfl).copyStr (.tmp 7) (.tmp 8) 39 9 5 0 16 16 s rfl rfl rfl rfl Try.underlying39 (by kernel_rfl) (by rw [HS.out, List.length_replicate]; decide) ?_; rw [spl_all 16 _ _ HBL.out (List.length_replicate ..)]; have HA : Aside0 (At _ w.heap.size _ _) := ⟨(At.zeros (w := w) (t := 44) rfl).setRow (b8s s.data.toList)⟩; have n1 := Aside0.mk (row_below HB.out (Nat.le_refl _) (b8s s.data.toList).toArray); clear HB; have HB := n1; clear n1)
  go_loopg [10] 15 (fun gg s10 wx => ∃ n : Nat, n + gg = 15 ∧ s10 = .int .i64 n ∧ At wx w.heap.size 44 (b8s (steps (encRound C) s.data.toList n)) ∧ Below w.heap.size w wx)
  case atStart => exact ⟨0, by omega, rfl, HA.out, HB.out⟩
  case round =>
    obtain ⟨n, hn, rfl, ha, hb⟩ := hrel
    clear HA HB
    have HA := Aside0.mk ha; have HB := Aside0.mk hb
    clear ha hb
    have HL := Aside0.mk (steps_length (encRound C) (encRound_length C) s.data.toList HBL.out n)
    cases gk with
    | zero =>
      have hn15 : n = 15 := by omega
      subst hn15
      have hconv : (convert 39 9 (.slice (some ⟨w.heap.size, 0, none⟩) 16 16)).run Try.prog wr = .ok (.string ⟨(steps (encRound C) s.data.toList 15).toArray⟩) wr := by
        have := run_convert_bytes_back (P := Try.prog) wr 39 9 5 ⟨w.heap.size, 0, none⟩ 16 (steps (encRound C) s.data.toList 15) Try.underlying39 Try.underlying5 Try.underlying9 (fun j hj => by
          rw [Addr.add_mid, Nat.zero_add, HA.out.cell8 j hj]
          simp [gb, List.getD_eq_getElem?_getD, hj])
        rwa [HL.out] at this
      go_wp2
      go_ret
      exact ⟨rfl, HB.out⟩
    | succ gk =>
      have hn15 : (n : Int) < 15 := by omega
      have HN : Aside0 (n < 15) := ⟨by omega⟩
      go_wp2_with (first
        | ((with_reducible refine gate_dst (N := 14) rfl ?_); refine HA.out.load _ _ rfl rfl rfl _ Try.underlying44 rfl (by rw [b8s_length, HL.out]; exact infoS) ?_)
        | (go_at_call 30; (refine (encR_any C _ n HCL.out HL.out HN.out g gc _ (H1.out.below HB.out H1.out.lt) (H2.out.below HB.out H2.out.lt)).mono ?_); rintro e w2 ⟨rfl, hb⟩; have n1 := Aside0.mk (HA.out.below hb HA.out.lt); have n2 := Aside0.mk (HB.out.trans (hb.mono HB.out.size)); clear HA HB hb; have HA := n1; have HB := n2; clear n1 n2)
        | (refine HA.out.store _ _ _ (b8s (encRound C (steps (encRound C) s.data.toList n) n)) rfl rfl rfl rfl (by rw [b8s_length, b8s_length, HL.out, encRound_length]) (by rw [b8s_length, encRound_length]; exact infoS) (At.one8 _) ?_; have n1 := Aside0.mk (HA.out.setRow (b8s (encRound C (steps (encRound C) s.data.toList n) n))); have n2 := Aside0.mk (row_below HB.out (Nat.le_refl _) (b8s (encRound C (steps (encRound C) s.data.toList n) n)).toArray); clear HA HB; have HA := n1; have HB := n2; clear n1 n2))
      go_roundg gk
      case measure => omega
      case rel => exact ⟨n + 1, by omega, by go_num, HA.out, HB.out⟩

theorem Encrypt_ok (kb : List UInt8) (s : ByteArray) (hk : kb.length = 32) (hs : s.size = 16) (g : Nat) (w : World) (h2 : At w g 49 (b8s (cipher kb))) :
    Calls Try.prog 14 #[.pointer (some ⟨g, 0, none⟩), .string s] w fun e w' => e = .returned (.tuple #[.string ⟨(encS kb s.data.toList).toArray⟩, .int .i64 0]) ∧ Below w.heap.size w w' := by
  have HS := Aside0.mk hs
  have HK := Aside0.mk hk
  have H2 := Aside0.mk h2
  clear h2 hs hk
  go_enter Try.func14, Try.ntmps14
  go_wp2_with (first
    | (go_at_call 28; (refine (asked_ok g s HS.out _).mono ?_); rintro e w' ⟨rfl, rfl⟩)
    | (go_at_call 29; (refine (each_enc (cipher kb) s (cipher_length kb HK.out) HS.out g w.heap.size _ (At.newAt rfl) (H2.out.alloc _)).mono ?_); rintro e w2 ⟨rfl, hb⟩; have HB := Aside0.mk (((Below.refl _ w).alloc (Nat.le_refl _) _).trans (hb.mono (by simp))); clear hb))
  go_ret2
  exact ⟨rfl, HB.out⟩
theorem Encrypt_arg (s : ByteArray) (hs : s.size ≠ 16) (g : Nat) (w : World) :
    Calls Try.prog 14 #[.pointer (some ⟨g, 0, none⟩), .string s] w fun e w' => e = .returned (.tuple #[.string ByteArray.empty, .int .i64 1]) ∧ Below w.heap.size w w' := by
  have HS := Aside0.mk hs
  clear hs
  go_enter Try.func14, Try.ntmps14
  go_wp2_with (go_at_call 28; (refine (asked_arg g s HS.out _).mono ?_); rintro e w' ⟨rfl, rfl⟩)
  go_ret2
  exact ⟨rfl, (Below.refl _ w).alloc (Nat.le_refl _) _⟩
theorem Encrypt_nil (s : ByteArray) (w : World) :
    Calls Try.prog 14 #[.pointer none, .string s] w fun e w' => e = .returned (.tuple #[.string ByteArray.empty, .int .i64 2]) ∧ Below w.heap.size w w' := by
  go_enter Try.func14, Try.ntmps14
  go_wp2_with (go_at_call 28; (refine (asked_nil s _).mono ?_); rintro e w' ⟨rfl, rfl⟩)
  go_ret2
  exact ⟨rfl, (Below.refl _ w).alloc (Nat.le_refl _) _⟩

set_option maxHeartbeats 1000000 in
set_option maxRecDepth 100000 in
theorem each_dec (C : List UInt8) (s : ByteArray) (hC : C.length = 752) (hs : s.size = 16) (g gc : Nat) (w : World) (h1 : At w gc 22 [.pointer (some ⟨g, 0, none⟩)]) (h2 : At w g 49 (b8s C)) :
    Calls Try.prog 29 #[.string s, .func (.func 35) #[] #[.pointer (some ⟨gc, 0, none⟩)]] w fun e w' => e = .returned (.string ⟨(steps (decRound C) s.data.toList 15).toArray⟩) ∧ Below w.heap.size w w' := by
  have HS := Aside0.mk hs
  have HCL := Aside0.mk hC
  have H1 := Aside0.mk h1
  have H2 := Aside0.mk h2
  clear h1 h2 hs hC
  have HB : Aside0 (Below w.heap.size w (w.alloc (.cells #[.int .u8 0, .int .u8 0, .int .u8 0, .int .u8 0, .int .u8 0, .int .u8 0, .int .u8 0, .int .u8 0, .int .u8 0, .int .u8 0, .int .u8 0, .int .u8 0, .int .u8 0, .int .u8 0, .int .u8 0, .int .u8 0] 44 (0, 0)))) := ⟨(Below.refl _ w).alloc (Nat.le_refl _) _⟩
  have hbl : s.data.toList.length = 16 := by rw [toList_length, HS.out]
  have HBL := Aside0.mk hbl
  clear hbl
  go_enter Try.func29, Try.ntmps29
  go_wp2_with ((with_reducible refine gate_dst (N := 9) rfl ?_); refine (At.zeros (w := w) rfl).copyStr (.tmp 7) (.tmp 8) 39 9 5 0 16 16 s rfl rfl rfl rfl Try.underlying39 (by kernel_rfl) (by rw [HS.out, List.length_replicate]; decide) ?_; rw [spl_all 16 _ _ HBL.out (List.length_replicate ..)]; have HA : Aside0 (At _ w.heap.size _ _) := ⟨(At.zeros (w := w) (t := 44) rfl).setRow (b8s s.data.toList)⟩; have n1 := Aside0.mk (row_below HB.out (Nat.le_refl _) (b8s s.data.toList).toArray); clear HB; have HB := n1; clear n1)
  go_loopg [10] 15 (fun gg s10 wx => ∃ n : Nat, n + gg = 15 ∧ s10 = .int .i64 n ∧ At wx w.heap.size 44 (b8s (steps (decRound C) s.data.toList n)) ∧ Below w.heap.size w wx)
  case atStart => exact ⟨0, by omega, rfl, HA.out, HB.out⟩
  case round =>
    obtain ⟨n, hn, rfl, ha, hb⟩ := hrel
    clear HA HB
    have HA := Aside0.mk ha; have HB := Aside0.mk hb
    clear ha hb
    have HL := Aside0.mk (steps_length (decRound C) (decRound_length C) s.data.toList HBL.out n)
    cases gk with
    | zero =>
      have hn15 : n = 15 := by omega
      subst hn15
      have hconv : (convert 39 9 (.slice (some ⟨w.heap.size, 0, none⟩) 16 16)).run Try.prog wr = .ok (.string ⟨(steps (decRound C) s.data.toList 15).toArray⟩) wr := by
        have := run_convert_bytes_back (P := Try.prog) wr 39 9 5 ⟨w.heap.size, 0, none⟩ 16 (steps (decRound C) s.data.toList 15) Try.underlying39 Try.underlying5 Try.underlying9 (fun j hj => by
          rw [Addr.add_mid, Nat.zero_add, HA.out.cell8 j hj]
          simp [gb, List.getD_eq_getElem?_getD, hj])
        rwa [HL.out] at this
      go_wp2
      go_ret
      exact ⟨rfl, HB.out⟩
    | succ gk =>
      have hn15 : (n : Int) < 15 := by omega
      have HN : Aside0 (n < 15) := ⟨by omega⟩
      go_wp2_with (first
        | ((with_reducible refine gate_dst (N := 14) rfl ?_); refine HA.out.load _ _ rfl rfl rfl _ Try.underlying44 rfl (by rw [b8s_length, HL.out]; exact infoS) ?_)
        | (go_at_call 35; (refine (decR_any C _ n HCL.out HL.out HN.out g gc _ (H1.out.below HB.out H1.out.lt) (H2.out.below HB.out H2.out.lt)).mono ?_); rintro e w2 ⟨rfl, hb⟩; have n1 := Aside0.mk (HA.out.below hb HA.out.lt); have n2 := Aside0.mk (HB.out.trans (hb.mono HB.out.size)); clear HA HB hb; have HA := n1; have HB := n2; clear n1 n2)
        | (refine HA.out.store _ _ _ (b8s (decRound C (steps (decRound C) s.data.toList n) n)) rfl rfl rfl rfl (by rw [b8s_length, b8s_length, HL.out, decRound_length]) (by rw [b8s_length, decRound_length]; exact infoS) (At.one8 _) ?_; have n1 := Aside0.mk (HA.out.setRow (b8s (decRound C (steps (decRound C) s.data.toList n) n))); have n2 := Aside0.mk (row_below HB.out (Nat.le_refl _) (b8s (decRound C (steps (decRound C) s.data.toList n) n)).toArray); clear HA HB; have HA := n1; have HB := n2; clear n1 n2))
      go_roundg gk
      case measure => omega
      case rel => exact ⟨n + 1, by omega, by go_num, HA.out, HB.out⟩

theorem Decrypt_ok (kb : List UInt8) (s : ByteArray) (hk : kb.length = 32) (hs : s.size = 16) (g : Nat) (w : World) (h2 : At w g 49 (b8s (cipher kb))) :
    Calls Try.prog 15 #[.pointer (some ⟨g, 0, none⟩), .string s] w fun e w' => e = .returned (.tuple #[.string ⟨(decS kb s.data.toList).toArray⟩, .int .i64 0]) ∧ Below w.heap.size w w' := by
  have HS := Aside0.mk hs
  have HK := Aside0.mk hk
  have H2 := Aside0.mk h2
  clear h2 hs hk
  go_enter Try.func15, Try.ntmps15
  go_wp2_with (first
    | (go_at_call 28; (refine (asked_ok g s HS.out _).mono ?_); rintro e w' ⟨rfl, rfl⟩)
    | (go_at_call 29; (refine (each_dec (cipher kb) s (cipher_length kb HK.out) HS.out g w.heap.size _ (At.newAt rfl) (H2.out.alloc _)).mono ?_); rintro e w2 ⟨rfl, hb⟩; have HB := Aside0.mk (((Below.refl _ w).alloc (Nat.le_refl _) _).trans (hb.mono (by simp))); clear hb))
  go_ret2
  exact ⟨rfl, HB.out⟩
theorem Decrypt_arg (s : ByteArray) (hs : s.size ≠ 16) (g : Nat) (w : World) :
    Calls Try.prog 15 #[.pointer (some ⟨g, 0, none⟩), .string s] w fun e w' => e = .returned (.tuple #[.string ByteArray.empty, .int .i64 1]) ∧ Below w.heap.size w w' := by
  have HS := Aside0.mk hs
  clear hs
  go_enter Try.func15, Try.ntmps15
  go_wp2_with (go_at_call 28; (refine (asked_arg g s HS.out _).mono ?_); rintro e w' ⟨rfl, rfl⟩)
  go_ret2
  exact ⟨rfl, (Below.refl _ w).alloc (Nat.le_refl _) _⟩
theorem Decrypt_nil (s : ByteArray) (w : World) :
    Calls Try.prog 15 #[.pointer none, .string s] w fun e w' => e = .returned (.tuple #[.string ByteArray.empty, .int .i64 2]) ∧ Below w.heap.size w w' := by
  go_enter Try.func15, Try.ntmps15
  go_wp2_with (go_at_call 28; (refine (asked_nil s _).mono ?_); rintro e w' ⟨rfl, rfl⟩)
  go_ret2
  exact ⟨rfl, (Below.refl _ w).alloc (Nat.le_refl _) _⟩
end Go.Proofs.Ytfbcgpgpfpnpnaa.Given
