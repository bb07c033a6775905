/- Contracts of aes' Encrypt and Decrypt, and of how keys and blocks are refused. Conditions: the cipher lies in memory as New made it. Blocks enciphered and deciphered, as strings; a cipher that lies in memory. Conditions: as each theorem names them. -/
import Derived.Test.YtdegeodegjmddaaZAesE
import Derived.Test.YtdegeodegjmddaaZAesN
import Derived.Test.YtdegeodegjmddaaZAesQ
import Derived.Lib.Strings
set_option linter.unusedVariables false
set_option linter.unusedSimpArgs false
namespace Go.Proofs.Ytdegeodegjmddaa.Given
open Go.RowKit Go.Proofs.YtdegeodegjmddaaW.PrintWords Go.Proofs.YtdegeodegjmddaaW.PrintLast Go.Proofs.YtdegeodegjmddaaW.PrintMore
open Go.Proofs.Ytdegeodegjmddaa.Row Go.Proofs.Ytdegeodegjmddaa.Aes Go.Proofs.Ytdegeodegjmddaa.Row.At
set_option maxRecDepth 100000
set_option linter.unusedVariables false
set_option linter.unusedSimpArgs false
attribute [-simp] Try.isAgg80 Try.isAgg75
theorem asked_ok (g : Nat) (s : ByteArray) (hs : s.size = 16) (w : World) :
    Calls Try.prog 50 #[.pointer (some ⟨g, 0, none⟩), .string s] w fun e w' => e = .returned (.int .i64 0) ∧ w = w' := by
  have h : ((s.size : Int) != 16) = false := by rw [hs]; rfl
  clear hs
  go_enter Try.func50, Try.ntmps50
  go_wp2
  go_ret
  exact ⟨rfl, rfl⟩
theorem asked_arg (g : Nat) (s : ByteArray) (hs : s.size ≠ 16) (w : World) :
    Calls Try.prog 50 #[.pointer (some ⟨g, 0, none⟩), .string s] w fun e w' => e = .returned (.int .i64 1) ∧ w = w' := by
  have h : ((s.size : Int) != 16) = true := by
    rw [bne_iff_ne]
    omega
  clear hs
  go_enter Try.func50, Try.ntmps50
  go_wp2
  go_ret
  exact ⟨rfl, rfl⟩
theorem asked_nil (s : ByteArray) (w : World) :
    Calls Try.prog 50 #[.pointer none, .string s] w fun e w' => e = .returned (.int .i64 2) ∧ w = w' := by
  go_enter Try.func50, Try.ntmps50
  go_wp2
  go_ret
  exact ⟨rfl, rfl⟩
theorem new_arg (key : ByteArray) (hk : key.size ≠ 32) (w : World) :
    Calls Try.prog 46 #[.string key] w fun e w' => e = .returned (.tuple #[.pointer none, .int .i64 1]) ∧ w = w' := by
  have h : ((key.size : Int) != 32) = true := by
    rw [bne_iff_ne]
    omega
  clear hk
  go_enter Try.func46, Try.ntmps46
  go_wp2
  go_ret2
  exact ⟨rfl, rfl⟩
theorem toList_length (s : ByteArray) : s.data.toList.length = s.size := Array.length_toList
theorem spl_all (n : Nat) (l m : List UInt8) (h : m.length = n) (hl : l.length = n) : spl l 0 (m.take n) = m := by
  rw [spl, List.take_zero, List.nil_append, List.take_of_length_le (show m.length ≤ n by omega), Nat.zero_add, h, List.drop_of_length_le (by omega), List.append_nil]

set_option maxHeartbeats 1000000 in
set_option maxRecDepth 100000 in
theorem each_enc (C : List UInt8) (s : ByteArray) (hC : C.length = 752) (hs : s.size = 16) (g gc : Nat) (w : World) (h1 : At w gc 49 [.pointer (some ⟨g, 0, none⟩)]) (h2 : At w g 80 (b8s C)) :
    Calls Try.prog 51 #[.string s, .func (.func 52) #[] #[.pointer (some ⟨gc, 0, none⟩)]] w fun e w' => e = .returned (.string ⟨(steps (encRound C) s.data.toList 15).toArray⟩) ∧ Below w.heap.size w w' := by
  have HS := Aside0.mk hs
  have HCL := Aside0.mk hC
  have H1 := Aside0.mk h1
  have H2 := Aside0.mk h2
  clear h1 h2 hs hC
  have HB : Aside0 (Below w.heap.size w (w.alloc (.cells #[.int .u8 0, .int .u8 0, .int .u8 0, .int .u8 0, .int .u8 0, .int .u8 0, .int .u8 0, .int .u8 0, .int .u8 0, .int .u8 0, .int .u8 0, .int .u8 0, .int .u8 0, .int .u8 0, .int .u8 0, .int .u8 0] 75 (0, 0)))) := ⟨(Below.refl _ w).alloc (Nat.le_refl _) _⟩
  have hbl : s.data.toList.length = 16 := by rw [toList_length, HS.out]
  have HBL := Aside0.mk hbl
  clear hbl
  go_enter Try.func51, Try.ntmps51
  go_wp2_with ((with_reducible refine gate_dst (N := 9) rfl ?_); refine (At.zeros (w := w) rfl).copyStr (.tmp 7) (.tmp 8) 43 9 5 0 16 16 s rfl rfl rfl rfl Try.underlying43 (by kernel_rfl) (by rw [HS.out, List.length_replicate]; decide) ?_; rw [spl_all 16 _ _ HBL.out (List.length_replicate ..)]; have HA : Aside0 (At _ w.heap.size _ _) := ⟨(At.zeros (w := w) (t := 75) rfl).setRow (b8s s.data.toList)⟩; have n1 := Aside0.mk (row_below HB.out (Nat.le_refl _) (b8s s.data.toList).toArray); clear HB; have HB := n1; clear n1)
  go_loopg [10] 15 (fun gg s10 wx => ∃ n : Nat, n + gg = 15 ∧ s10 = .int .i64 n ∧ At wx w.heap.size 75 (b8s (steps (encRound C) s.data.toList n)) ∧ Below w.heap.size w wx)
  case atStart => exact ⟨0, by omega, rfl, HA.out, HB.out⟩
  case round =>
    obtain ⟨n, hn, rfl, ha, hb⟩ := hrel
    clear HA HB
    have HA := Aside0.mk ha; have HB := Aside0.mk hb
    clear ha hb
    have HL := Aside0.mk (steps_length (encRound C) (encRound_length C) s.data.toList HBL.out n)
    cases gk with
    | zero =>
      have hn15 : n = 15 := by omega
      subst hn15
      have hconv : (convert 43 9 (.slice (some ⟨w.heap.size, 0, none⟩) 16 16)).run Try.prog wr = .ok (.string ⟨(steps (encRound C) s.data.toList 15).toArray⟩) wr := by
        have := run_convert_bytes_back (P := Try.prog) wr 43 9 5 ⟨w.heap.size, 0, none⟩ 16 (steps (encRound C) s.data.toList 15) Try.underlying43 Try.underlying5 Try.underlying9 (fun j hj => by
          rw [Addr.add_mid, Nat.zero_add, HA.out.cell8 j hj]
          simp [gb, List.getD_eq_getElem?_getD, hj])
        rwa [HL.out] at this
      go_wp2
      go_ret
      exact ⟨rfl, HB.out⟩
    | succ gk =>
      have hn15 : (n : Int) < 15 := by omega
      have HN : Aside0 (n < 15) := ⟨by omega⟩
      go_wp2_with (first
        | ((with_reducible refine gate_dst (N := 14) rfl ?_); refine HA.out.load _ _ rfl rfl rfl _ Try.underlying75 rfl (by rw [b8s_length, HL.out]; exact infoS) ?_)
        | (go_at_call 52; (refine (encR_any C _ n HCL.out HL.out HN.out g gc _ (H1.out.below HB.out H1.out.lt) (H2.out.below HB.out H2.out.lt)).mono ?_); rintro e w2 ⟨rfl, hb⟩; have n1 := Aside0.mk (HA.out.below hb HA.out.lt); have n2 := Aside0.mk (HB.out.trans (hb.mono HB.out.size)); clear HA HB hb; have HA := n1; have HB := n2; clear n1 n2)
        | (refine HA.out.store _ _ _ (b8s (encRound C (steps (encRound C) s.data.toList n) n)) rfl rfl rfl rfl (by rw [b8s_length, b8s_length, HL.out, encRound_length]) (by rw [b8s_length, encRound_length]; exact infoS) (At.one8 _) ?_; have n1 := Aside0.mk (HA.out.setRow (b8s (encRound C (steps (encRound C) s.data.toList n) n))); have n2 := Aside0.mk (row_below HB.out (Nat.le_refl _) (b8s (encRound C (steps (encRound C) s.data.toList n) n)).toArray); clear HA HB; have HA := n1; have HB := n2; clear n1 n2))
      go_roundg gk
      case measure => omega
      case rel => exact ⟨n + 1, by omega, by go_num, HA.out, HB.out⟩

theorem Encrypt_ok (kb : List UInt8) (s : ByteArray) (hk : kb.length = 32) (hs : s.size = 16) (g : Nat) (w : World) (h2 : At w g 80 (b8s (cipher kb))) :
    Calls Try.prog 31 #[.pointer (some ⟨g, 0, none⟩), .string s] w fun e w' => e = .returned (.tuple #[.string ⟨(encS kb s.data.toList).toArray⟩, .int .i64 0]) ∧ Below w.heap.size w w' := by
  have HS := Aside0.mk hs
  have HK := Aside0.mk hk
  have H2 := Aside0.mk h2
  clear h2 hs hk
  go_enter Try.func31, Try.ntmps31
  go_wp2_with (first
    | (go_at_call 50; (refine (asked_ok g s HS.out _).mono ?_); rintro e w' ⟨rfl, rfl⟩)
    | (go_at_call 51; (refine (each_enc (cipher kb) s (cipher_length kb HK.out) HS.out g w.heap.size _ (At.newAt rfl) (H2.out.alloc _)).mono ?_); rintro e w2 ⟨rfl, hb⟩; have HB := Aside0.mk (((Below.refl _ w).alloc (Nat.le_refl _) _).trans (hb.mono (by simp))); clear hb))
  go_ret2
  exact ⟨rfl, HB.out⟩
theorem Encrypt_arg (s : ByteArray) (hs : s.size ≠ 16) (g : Nat) (w : World) :
    Calls Try.prog 31 #[.pointer (some ⟨g, 0, none⟩), .string s] w fun e w' => e = .returned (.tuple #[.string ByteArray.empty, .int .i64 1]) ∧ Below w.heap.size w w' := by
  have HS := Aside0.mk hs
  clear hs
  go_enter Try.func31, Try.ntmps31
  go_wp2_with (go_at_call 50; (refine (asked_arg g s HS.out _).mono ?_); rintro e w' ⟨rfl, rfl⟩)
  go_ret2
  exact ⟨rfl, (Below.refl _ w).alloc (Nat.le_refl _) _⟩
theorem Encrypt_nil (s : ByteArray) (w : World) :
    Calls Try.prog 31 #[.pointer none, .string s] w fun e w' => e = .returned (.tuple #[.string ByteArray.empty, .int .i64 2]) ∧ Below w.heap.size w w' := by
  go_enter Try.func31, Try.ntmps31
  go_wp2_with (go_at_call 50; (refine (asked_nil s _).mono ?_); rintro e w' ⟨rfl, rfl⟩)
  go_ret2
  exact ⟨rfl, (Below.refl _ w).alloc (Nat.le_refl _) _⟩

set_option maxHeartbeats 1000000 in
set_option maxRecDepth 100000 in
theorem each_dec (C : List UInt8) (s : ByteArray) (hC : C.length = 752) (hs : s.size = 16) (g gc : Nat) (w : World) (h1 : At w gc 49 [.pointer (some ⟨g, 0, none⟩)]) (h2 : At w g 80 (b8s C)) :
    Calls Try.prog 51 #[.string s, .func (.func 59) #[] #[.pointer (some ⟨gc, 0, none⟩)]] w fun e w' => e = .returned (.string ⟨(steps (decRound C) s.data.toList 15).toArray⟩) ∧ Below w.heap.size w w' := by
  have HS := Aside0.mk hs
  have HCL := Aside0.mk hC
  have H1 := Aside0.mk h1
  have H2 := Aside0.mk h2
  clear h1 h2 hs hC
  have HB : Aside0 (Below w.heap.size w (w.alloc (.cells #[.int .u8 0, .int .u8 0, .int .u8 0, .int .u8 0, .int .u8 0, .int .u8 0, .int .u8 0, .int .u8 0, .int .u8 0, .int .u8 0, .int .u8 0, .int .u8 0, .int .u8 0, .int .u8 0, .int .u8 0, .int .u8 0] 75 (0, 0)))) := ⟨(Below.refl _ w).alloc (Nat.le_refl _) _⟩
  have hbl : s.data.toList.length = 16 := by rw [toList_length, HS.out]
  have HBL := Aside0.mk hbl
  clear hbl
  go_enter Try.func51, Try.ntmps51
  go_wp2_with ((with_reducible refine gate_dst (N := 9) rfl ?_); refine (At.zeros (w := w) rfl).copyStr (.tmp 7) (.tmp 8) 43 9 5 0 16 16 s rfl rfl rfl rfl Try.underlying43 (by kernel_rfl) (by rw [HS.out, List.length_replicate]; decide) ?_; rw [spl_all 16 _ _ HBL.out (List.length_replicate ..)]; have HA : Aside0 (At _ w.heap.size _ _) := ⟨(At.zeros (w := w) (t := 75) rfl).setRow (b8s s.data.toList)⟩; have n1 := Aside0.mk (row_below HB.out (Nat.le_refl _) (b8s s.data.toList).toArray); clear HB; have HB := n1; clear n1)
  go_loopg [10] 15 (fun gg s10 wx => ∃ n : Nat, n + gg = 15 ∧ s10 = .int .i64 n ∧ At wx w.heap.size 75 (b8s (steps (decRound C) s.data.toList n)) ∧ Below w.heap.size w wx)
  case atStart => exact ⟨0, by omega, rfl, HA.out, HB.out⟩
  case round =>
    obtain ⟨n, hn, rfl, ha, hb⟩ := hrel
    clear HA HB
    have HA := Aside0.mk ha; have HB := Aside0.mk hb
    clear ha hb
    have HL := Aside0.mk (steps_length (decRound C) (decRound_length C) s.data.toList HBL.out n)
    cases gk with
    | zero =>
      have hn15 : n = 15 := by omega
      subst hn15
      have hconv : (convert 43 9 (.slice (some ⟨w.heap.size, 0, none⟩) 16 16)).run Try.prog wr = .ok (.string ⟨(steps (decRound C) s.data.toList 15).toArray⟩) wr := by
        have := run_convert_bytes_back (P := Try.prog) wr 43 9 5 ⟨w.heap.size, 0, none⟩ 16 (steps (decRound C) s.data.toList 15) Try.underlying43 Try.underlying5 Try.underlying9 (fun j hj => by
          rw [Addr.add_mid, Nat.zero_add, HA.out.cell8 j hj]
          simp [gb, List.getD_eq_getElem?_getD, hj])
        rwa [HL.out] at this
      go_wp2
      go_ret
      exact ⟨rfl, HB.out⟩
    | succ gk =>
      have hn15 : (n : Int) < 15 := by omega
      have HN : Aside0 (n < 15) := ⟨by omega⟩
      go_wp2_with (first
        | ((with_reducible refine gate_dst (N := 14) rfl ?_); refine HA.out.load _ _ rfl rfl rfl _ Try.underlying75 rfl (by rw [b8s_length, HL.out]; exact infoS) ?_)
        | (go_at_call 59; (refine (decR_any C _ n HCL.out HL.out HN.out g gc _ (H1.out.below HB.out H1.out.lt) (H2.out.below HB.out H2.out.lt)).mono ?_); rintro e w2 ⟨rfl, hb⟩; have n1 := Aside0.mk (HA.out.below hb HA.out.lt); have n2 := Aside0.mk (HB.out.trans (hb.mono HB.out.size)); clear HA HB hb; have HA := n1; have HB := n2; clear n1 n2)
        | (refine HA.out.store _ _ _ (b8s (decRound C (steps (decRound C) s.data.toList n) n)) rfl rfl rfl rfl (by rw [b8s_length, b8s_length, HL.out, decRound_length]) (by rw [b8s_length, decRound_length]; exact infoS) (At.one8 _) ?_; have n1 := Aside0.mk (HA.out.setRow (b8s (decRound C (steps (decRound C) s.data.toList n) n))); have n2 := Aside0.mk (row_below HB.out (Nat.le_refl _) (b8s (decRound C (steps (decRound C) s.data.toList n) n)).toArray); clear HA HB; have HA := n1; have HB := n2; clear n1 n2))
      go_roundg gk
      case measure => omega
      case rel => exact ⟨n + 1, by omega, by go_num, HA.out, HB.out⟩

theorem Decrypt_ok (kb : List UInt8) (s : ByteArray) (hk : kb.length = 32) (hs : s.size = 16) (g : Nat) (w : World) (h2 : At w g 80 (b8s (cipher kb))) :
    Calls Try.prog 37 #[.pointer (some ⟨g, 0, none⟩), .string s] w fun e w' => e = .returned (.tuple #[.string ⟨(decS kb s.data.toList).toArray⟩, .int .i64 0]) ∧ Below w.heap.size w w' := by
  have HS := Aside0.mk hs
  have HK := Aside0.mk hk
  have H2 := Aside0.mk h2
  clear h2 hs hk
  go_enter Try.func37, Try.ntmps37
  go_wp2_with (first
    | (go_at_call 50; (refine (asked_ok g s HS.out _).mono ?_); rintro e w' ⟨rfl, rfl⟩)
    | (go_at_call 51; (refine (each_dec (cipher kb) s (cipher_length kb HK.out) HS.out g w.heap.size _ (At.newAt rfl) (H2.out.alloc _)).mono ?_); rintro e w2 ⟨rfl, hb⟩; have HB := Aside0.mk (((Below.refl _ w).alloc (Nat.le_refl _) _).trans (hb.mono (by simp))); clear hb))
  go_ret2
  exact ⟨rfl, HB.out⟩
theorem Decrypt_arg (s : ByteArray) (hs : s.size ≠ 16) (g : Nat) (w : World) :
    Calls Try.prog 37 #[.pointer (some ⟨g, 0, none⟩), .string s] w fun e w' => e = .returned (.tuple #[.string ByteArray.empty, .int .i64 1]) ∧ Below w.heap.size w w' := by
  have HS := Aside0.mk hs
  clear hs
  go_enter Try.func37, Try.ntmps37
  go_wp2_with (go_at_call 50; (refine (asked_arg g s HS.out _).mono ?_); rintro e w' ⟨rfl, rfl⟩)
  go_ret2
  exact ⟨rfl, (Below.refl _ w).alloc (Nat.le_refl _) _⟩
theorem Decrypt_nil (s : ByteArray) (w : World) :
    Calls Try.prog 37 #[.pointer none, .string s] w fun e w' => e = .returned (.tuple #[.string ByteArray.empty, .int .i64 2]) ∧ Below w.heap.size w w' := by
  go_enter Try.func37, Try.ntmps37
  go_wp2_with (go_at_call 50; (refine (asked_nil s _).mono ?_); rintro e w' ⟨rfl, rfl⟩)
  go_ret2
  exact ⟨rfl, (Below.refl _ w).alloc (Nat.le_refl _) _⟩
end Go.Proofs.Ytdegeodegjmddaa.Given

namespace Go.Proofs.Ytdegeodegjmddaa.Given
open Go.RowKit Go.Proofs.YtdegeodegjmddaaW.PrintWords Go.Proofs.YtdegeodegjmddaaW.PrintLast Go.Proofs.YtdegeodegjmddaaW.PrintMore
open Go.Proofs.Ytdegeodegjmddaa.Row Go.Proofs.Ytdegeodegjmddaa.Aes Go.Proofs.Ytdegeodegjmddaa.Row.At
set_option maxRecDepth 100000
set_option linter.unusedVariables false
set_option linter.unusedSimpArgs false
/-- A cipher lies in memory, beside what was there before the call. -/
structure Has (w wx : World) (g : Nat) (kb : List UInt8) : Prop where
  cip : At wx g 80 (b8s (cipher kb))
  bel : Below w.heap.size w wx
theorem Has.go {w wx w2 : World} {g : Nat} {kb : List UInt8} (h : Has w wx g kb) (hb : Below wx.heap.size wx w2) : Has w w2 g kb :=
  ⟨h.cip.below hb h.cip.lt, h.bel.trans (hb.mono h.bel.size)⟩
theorem below_go {w wx w2 : World} (h : Below w.heap.size w wx) (hb : Below wx.heap.size wx w2) : Below w.heap.size w w2 := h.trans (hb.mono h.size)
/-- A block enciphered, deciphered: strings. -/
def encW (key s : ByteArray) : ByteArray := ⟨(encS key.data.toList s.data.toList).toArray⟩
def decW (key s : ByteArray) : ByteArray := ⟨(decS key.data.toList s.data.toList).toArray⟩
theorem encW_size (key s : ByteArray) : (encW key s).size = 16 := by
  show (encS key.data.toList s.data.toList).toArray.size = 16
  rw [List.size_toArray, encS_length]
theorem decW_size (key s : ByteArray) : (decW key s).size = 16 := by
  show (decS key.data.toList s.data.toList).toArray.size = 16
  rw [List.size_toArray, decS_length]
theorem decW_encW (key s : ByteArray) (hk : key.size = 32) (hs : s.size = 16) : decW key (encW key s) = s := by
  have : decS key.data.toList (encS key.data.toList s.data.toList) = s.data.toList := dec_enc _ _ (by rw [toList_length, hk]) (by rw [toList_length, hs])
  show (⟨(decS key.data.toList (encS key.data.toList s.data.toList).toArray.toList).toArray⟩ : ByteArray) = s
  rw [List.toList_toArray, this]
theorem encW_decW (key s : ByteArray) (hk : key.size = 32) (hs : s.size = 16) : encW key (decW key s) = s := by
  have : encS key.data.toList (decS key.data.toList s.data.toList) = s.data.toList := enc_dec _ _ (by rw [toList_length, hk]) (by rw [toList_length, hs])
  show (⟨(encS key.data.toList (decS key.data.toList s.data.toList).toArray.toList).toArray⟩ : ByteArray) = s
  rw [List.toList_toArray, this]
theorem Encrypt_w (key s : ByteArray) (hk : key.size = 32) (hs : s.size = 16) (g : Nat) (w : World) (h2 : At w g 80 (b8s (cipher key.data.toList))) :
    Calls Try.prog 31 #[.pointer (some ⟨g, 0, none⟩), .string s] w fun e w' => e = .returned (.tuple #[.string (encW key s), .int .i64 0]) ∧ Below w.heap.size w w' :=
  Encrypt_ok key.data.toList s (by rw [toList_length, hk]) hs g w h2
theorem Decrypt_w (key s : ByteArray) (hk : key.size = 32) (hs : s.size = 16) (g : Nat) (w : World) (h2 : At w g 80 (b8s (cipher key.data.toList))) :
    Calls Try.prog 37 #[.pointer (some ⟨g, 0, none⟩), .string s] w fun e w' => e = .returned (.tuple #[.string (decW key s), .int .i64 0]) ∧ Below w.heap.size w w' :=
  Decrypt_ok key.data.toList s (by rw [toList_length, hk]) hs g w h2
theorem toList_inj {a b : ByteArray} (h : a.toList = b.toList) : a = b := by
  rw [Go.Lib.toList_data, Go.Lib.toList_data] at h
  cases a; cases b
  congr 1
  exact Array.toList_inj.1 h
theorem beq_both (f u : ByteArray → ByteArray) (a b : ByteArray) (ha : u (f a) = a) (hb : u (f b) = b) : ((f a).toList == (f b).toList) = (a.toList == b.toList) := by
  rw [Bool.eq_iff_iff, beq_iff_eq, beq_iff_eq]
  constructor
  · intro h
    have := toList_inj h
    rw [← ha, ← hb, this]
  · intro h
    rw [toList_inj h]
attribute [irreducible] encW decW
end Go.Proofs.Ytdegeodegjmddaa.Given
