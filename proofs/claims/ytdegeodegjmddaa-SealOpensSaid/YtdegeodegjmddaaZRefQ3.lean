/- The contracts of hamperref09.Encrypt and Decrypt. Conditions: a key of 32 bytes, a block of 16. The contracts of hamperref10.xor, and of hamperref09.Encrypt and Decrypt, as functions. Conditions: keys of 32 bytes, blocks of 16. -/
import Derived.Test.YtdegeodegjmddaaZRefF
import Derived.Test.YtdegeodegjmddaaZCbcQ2
set_option linter.unusedVariables false
set_option linter.unusedSimpArgs false
namespace Go.Proofs.Ytdegeodegjmddaa.Given
open Go.RowKit Go.Proofs.YtdegeodegjmddaaW.PrintWords
open Go.Proofs.Ytdegeodegjmddaa.Row
set_option maxRecDepth 100000
set_option linter.unusedVariables false
set_option linter.unusedSimpArgs false
theorem refEnc_any (key b : ByteArray) (hk : key.size = 32) (hb : b.size = 16) (w : World) :
    Calls Try.prog 41 #[.string key, .string b] w fun e w' => e = .returned (.string (encW key b)) ∧ Below w.heap.size w w' := by
  have HK := Aside0.mk hk
  have HBB : Aside0 (∀ s ∈ [b], s.size = 16) := ⟨by simpa using hb⟩
  have HI := Aside0.mk (in_one w b (by omega))
  have HB : Aside0 (Below w.heap.size w (w.alloc (.cells #[.string b] 9 (0, 0)))) := ⟨(Below.refl _ w).alloc (Nat.le_refl _) _⟩
  have HC0 : Aside0 (Calls Try.prog 62 #[.string key, .slice (some ⟨w.heap.size, 0, none⟩) 1 1] (w.alloc (.cells #[.string b] 9 (0, 0))) fun e w' => ∃ v', e = .returned v' ∧ Row.Own w' (w.alloc (.cells #[.string b] 9 (0, 0))).heap.size 9 v' (strs ([b].map (encW key))) ∧ Below (w.alloc (.cells #[.string b] 9 (0, 0))).heap.size (w.alloc (.cells #[.string b] 9 (0, 0))) w') := ⟨encs_any key hk _ 1 [b] HBB.out _ HI.out⟩
  obtain ⟨y, hy⟩ : ∃ y, y = encW key b := ⟨_, rfl⟩
  have HY : Aside0 (strs ([b].map (encW key)) = [.string y]) := ⟨by rw [hy]; rfl⟩
  rw [← hy]
  clear hk hb hy
  go_enter Try.func41, Try.ntmps41
  go_wp2_with (go_at_call 62; (with_reducible refine HC0.out.mono ?_); rintro e w1 ⟨v1, rfl, hv, hb⟩; rw [HY.out] at hv; have n1 := Aside0.mk (HB.out.trans (hb.mono HB.out.size)); obtain ⟨g1, c1, hvf, _, _⟩ := hv.form (n := 1) rfl (by decide); subst hvf; have hc := hv.cell 0 _ rfl; clear HB hb hv; have HB := n1; clear n1)
  go_ret
  exact ⟨rfl, HB.out⟩
theorem refDec_any (key b : ByteArray) (hk : key.size = 32) (hb : b.size = 16) (w : World) :
    Calls Try.prog 43 #[.string key, .string b] w fun e w' => e = .returned (.string (decW key b)) ∧ Below w.heap.size w w' := by
  have HK := Aside0.mk hk
  have HBB : Aside0 (∀ s ∈ [b], s.size = 16) := ⟨by simpa using hb⟩
  have HI := Aside0.mk (in_one w b (by omega))
  have HB : Aside0 (Below w.heap.size w (w.alloc (.cells #[.string b] 9 (0, 0)))) := ⟨(Below.refl _ w).alloc (Nat.le_refl _) _⟩
  have HC0 : Aside0 (Calls Try.prog 63 #[.string key, .slice (some ⟨w.heap.size, 0, none⟩) 1 1] (w.alloc (.cells #[.string b] 9 (0, 0))) fun e w' => ∃ v', e = .returned v' ∧ Row.Own w' (w.alloc (.cells #[.string b] 9 (0, 0))).heap.size 9 v' (strs ([b].map (decW key))) ∧ Below (w.alloc (.cells #[.string b] 9 (0, 0))).heap.size (w.alloc (.cells #[.string b] 9 (0, 0))) w') := ⟨decs_any key hk _ 1 [b] HBB.out _ HI.out⟩
  obtain ⟨y, hy⟩ : ∃ y, y = decW key b := ⟨_, rfl⟩
  have HY : Aside0 (strs ([b].map (decW key)) = [.string y]) := ⟨by rw [hy]; rfl⟩
  rw [← hy]
  clear hk hb hy
  go_enter Try.func43, Try.ntmps43
  go_wp2_with (go_at_call 63; (with_reducible refine HC0.out.mono ?_); rintro e w1 ⟨v1, rfl, hv, hb⟩; rw [HY.out] at hv; have n1 := Aside0.mk (HB.out.trans (hb.mono HB.out.size)); obtain ⟨g1, c1, hvf, _, _⟩ := hv.form (n := 1) rfl (by decide); subst hvf; have hc := hv.cell 0 _ rfl; clear HB hb hv; have HB := n1; clear n1)
  go_ret
  exact ⟨rfl, HB.out⟩
end Go.Proofs.Ytdegeodegjmddaa.Given

namespace Go.Proofs.Ytdegeodegjmddaa.Given
open Go.RowKit Go.Proofs.YtdegeodegjmddaaW.PrintWords Go.Proofs.YtdegeodegjmddaaW.PrintLast Go.Proofs.YtdegeodegjmddaaW.PrintMore
open Go.Proofs.Ytdegeodegjmddaa.Row Go.Proofs.Ytdegeodegjmddaa.Aes Go.Proofs.Ytdegeodegjmddaa.Row.At Go.Proofs.Ytdegeodegjmddaa.Cbc
set_option maxRecDepth 100000
set_option linter.unusedVariables false
set_option linter.unusedSimpArgs false
set_option maxHeartbeats 2000000 in
theorem refXor_any (a b : ByteArray) (ha : a.size = 16) (hb : b.size = 16) (w : World) :
    Calls Try.prog 42 #[.string a, .string b] w fun e w' => e = .returned (.string (xorW a b)) ∧ Below w.heap.size w w' := by
  have HBS := Aside0.mk hb
  have hconv := Lib.run_convert_string_bytes (P := Try.prog) w 9 43 5 a Try.underlying9 Try.underlying43 Try.underlying5
  have HS0 := Aside0.mk (Row.Own.ofString w 5 a (B := w.heap.size) (Nat.le_refl _) (by rw [ha]; decide))
  have HB0 := Aside0.mk (Lib.bytesWorld_below w 5 a)
  rw [ha] at hconv HS0
  obtain ⟨cap, hcap⟩ : ∃ c, c = grownCap w 16 0 5 := ⟨_, rfl⟩
  obtain ⟨w1, hw1⟩ : ∃ W, W = Lib.bytesWorld w 5 a := ⟨_, rfl⟩
  rw [← hw1, ← hcap] at hconv HS0
  rw [← hw1] at HB0
  obtain ⟨al, hal⟩ : ∃ l, l = a.data.toList := ⟨_, rfl⟩
  rw [← hal] at HS0
  have HAL : Aside0 (al.length = 16) := ⟨by rw [hal]; exact ha⟩
  have hbl : b.data.toList.length = 16 := hb
  have HRES : Aside0 (xorW a b = bs (mk16 (withF al b.data.toList))) := ⟨by rw [xorW, xorL_eq _ _ ha hbl, hal]⟩
  obtain ⟨res, hres⟩ : ∃ r, r = xorW a b := ⟨_, rfl⟩
  rw [← hres] at HRES ⊢
  clear hw1 hcap hal ha hb hbl hres
  go_enter Try.func42, Try.ntmps42
  go_wp2
  clear hconv
  go_loopg [6] 16 (fun gg s6 wr => ∃ (i : Nat) (l : List UInt8), i + gg = 16 ∧ s6 = .int .i64 i ∧ Row.Own wr w.heap.size 5 (.slice (some ⟨w.heap.size, 0, none⟩) 16 cap) (b8s l) ∧ Aes.Part (withF al b.data.toList) al i l ∧ Below w.heap.size w wr)
  case atStart => exact ⟨0, al, by omega, rfl, HS0.out, Aes.Part.start _ HAL.out, HB0.out⟩
  case round =>
    obtain ⟨i, l, hi, rfl, hs, hp, hb⟩ := hrel
    clear HS0 HB0
    have HS := Aside0.mk hs
    have HP := Aside0.mk hp
    have HB := Aside0.mk hb
    clear hs hp hb
    cases gk with
    | zero =>
      have hi16 : i = 16 := by omega
      subst hi16
      have hconv : (convert 43 9 (.slice (some ⟨w.heap.size, 0, none⟩) 16 cap)).run Try.prog wr = .ok (.string res) wr := by
        have := run_convert_bytes_back (P := Try.prog) wr 43 9 5 ⟨w.heap.size, 0, none⟩ cap l Try.underlying43 Try.underlying5 Try.underlying9 (fun j hj => by
          rw [Addr.add_mid, Nat.zero_add, HS.out.cell j _ (b8s_get _ j hj)]
          simp [gb, List.getD_eq_getElem?_getD, hj])
        rw [HP.out.len] at this
        rw [HRES.out, ← HP.out.done]
        exact this
      clear hi
      go_wp2
      go_ret
      exact ⟨rfl, HB.out⟩
    | succ gk2 =>
      have hi16 : (i : Int) < 16 := by omega
      have hin : i < 16 := by omega
      have h0i : (0 : Int) ≤ (i : Int) := by omega
      have HI := Aside0.mk (And.intro hi hin)
      have c1 := HS.out.cell i _ (b8s_get l i (by rw [HP.out.len]; exact hin))
      have f1 := HS.out.frozen i (by rw [b8s_length, HP.out.len]; exact hin)
      have i1 := index_str b i (by rw [HBS.out]; exact hin)
      clear hi hin
      go_wp2
      refine wp_region_still_tail 10 (by kernel_rfl) (by kernel_rfl) ?_
      simp only [List.take_succ_cons, List.take_zero, List.drop_succ_cons, List.drop_zero]
      iterate 10 still_step
      refine wpStill_nil ?_
      change wpList _ _ _ _ _ wr.drew
      rw [u8x]
      obtain ⟨z, hz⟩ : ∃ z, z = gb l i ^^^ gb b.data.toList i := ⟨_, rfl⟩
      rw [← hz]
      have HZ : Aside0 (z = withF al b.data.toList i) := ⟨by rw [hz, HP.out.here HI.out.2]; rfl⟩
      have c1' : wr.drew.cell? { block := w.heap.size, off := i } = some (Value.int IntKind.u8 ↑(gb l i).toNat) := c1
      have f1' : wr.drew.frozen? { block := w.heap.size, off := i } = false := f1
      clear c1 f1 i1 hz
      go_wp2
      go_roundg gk2
      case measure => omega
      case rel =>
        refine ⟨i + 1, l.set i z, by have := HI.out; omega, rfl, ?_, HP.out.next HI.out.2 HZ.out, (HB.out.setCell (Nat.le_refl _) _).drew⟩
        have h2 := HS.out.set i (by rw [b8s_length, HP.out.len]; exact HI.out.2) (.int .u8 (z.toNat : Int))
        rw [b8s_set] at h2
        exact h2.drew
/-- a number's eight bytes, so many of them laid from the end on -/
def be8N (n gg : Nat) : List UInt8 := List.replicate gg 0 ++ (be8 n).drop gg
theorem be8N_length (n gg : Nat) (h : gg ≤ 8) : (be8N n gg).length = 8 := by rw [be8N, List.length_append, List.length_replicate, List.length_drop, be8_length]; omega
theorem be8N_set (n gg : Nat) (h : gg < 8) : (be8N n (gg + 1)).set gg (UInt8.ofNat (n / 2 ^ (8 * (7 - gg)))) = be8N n gg := by
  have hl : gg < (be8 n).length := by rw [be8_length]; exact h
  have hg : (be8 n)[gg] = UInt8.ofNat (n / 2 ^ (8 * (7 - gg))) := by simp [be8]
  rw [be8N, be8N, List.replicate_succ', List.append_assoc, List.set_append_right _ _ (by simp), List.length_replicate, Nat.sub_self, List.singleton_append, List.set_cons_zero, ← hg, ← List.drop_eq_getElem_cons hl]
theorem made8 (W : World) (B : Nat) (hB : B ≤ W.heap.size) : Row.Own (W.alloc (.cells (madeCells #[.int .u8 0] 8) 5 (0, 0))) B 5 (.slice (some ⟨W.heap.size, 0, none⟩) 8 8) (b8s (List.replicate 8 0)) := by
  have e : madeCells #[.int .u8 0] 8 = (b8s (List.replicate 8 0)).toArray := by
    have := toList_madeCells_one (.int .u8 0) 8
    rw [← Array.toArray_toList (xs := madeCells #[.int .u8 0] 8), this]
    rfl
  rw [e]
  exact Row.Own.build W (b8s (List.replicate 8 0)) 5 hB (by decide)
set_option maxHeartbeats 2000000 in
theorem eight_any (n : Nat) (hn : n ≤ 1152921504606846976) (w : World) :
    Calls Try.prog 61 #[.int .i64 n] w fun e w' => e = .returned (.string (bs (be8 n))) ∧ Below w.heap.size w w' := by
  have hmk : ∀ W : World, (Instr.makeSlice 43 (.int .i64 8) (.int .i64 8)).run Try.prog W = .ok (.slice (some ⟨W.heap.size, 0, none⟩) 8 8) (W.alloc (.cells (madeCells #[.int .u8 0] 8) 5)) := print_make (P := Try.prog) 43 5 .u8 1 Try.underlying43 (by kernel_rfl) (by decide) 8 (by omega)
  have HS0 : Aside0 (Row.Own (w.alloc (.cells (madeCells #[.int .u8 0] 8) 5)) w.heap.size 5 (.slice (some ⟨w.heap.size, 0, none⟩) 8 8) (b8s (be8N n 8))) := ⟨made8 w w.heap.size (Nat.le_refl _)⟩
  have HB0 : Aside0 (Below w.heap.size w (w.alloc (.cells (madeCells #[.int .u8 0] 8) 5))) := ⟨(Below.refl _ _).alloc (Nat.le_refl _) _⟩
  obtain ⟨C, hC⟩ : ∃ C, C = Obj.cells (madeCells #[.int .u8 0] 8) 5 (0, 0) := ⟨_, rfl⟩
  rw [← hC] at hmk HS0 HB0
  have HN := Aside0.mk hn
  clear hC hn
  go_enter Try.func61, Try.ntmps61
  go_wp2
  go_loopg [0, 4] 8 (fun gg s0 s4 wr => gg ≤ 8 ∧ s4 = .int .i64 ((gg : Int) - 1) ∧ s0 = .int .i64 ((n / 2 ^ (8 * (8 - gg)) : Nat) : Int) ∧ Row.Own wr w.heap.size 5 (.slice (some ⟨w.heap.size, 0, none⟩) 8 8) (b8s (be8N n gg)) ∧ Below w.heap.size w wr)
  case atStart => exact ⟨Nat.le_refl _, rfl, by simp, HS0.out, HB0.out⟩
  case round =>
    obtain ⟨hg8, rfl, rfl, hs, hb⟩ := hrel
    clear HS0 HB0
    have HS := Aside0.mk hs
    have HB := Aside0.mk hb
    clear hs hb
    cases gk with
    | zero =>
      have hconv : (convert 43 9 (.slice (some ⟨w.heap.size, 0, none⟩) 8 8)).run Try.prog wr = .ok (.string (bs (be8 n))) wr := by
        have := run_convert_bytes_back (P := Try.prog) wr 43 9 5 ⟨w.heap.size, 0, none⟩ 8 (be8N n 0) Try.underlying43 Try.underlying5 Try.underlying9 (fun j hj => by
          rw [Addr.add_mid, Nat.zero_add, HS.out.cell j _ (b8s_get _ j hj)]
          simp [gb, List.getD_eq_getElem?_getD, hj])
        rw [be8N_length n 0 (by decide)] at this
        exact this
      clear hg8
      go_wp2
      go_ret
      exact ⟨rfl, HB.out⟩
    | succ gk2 =>
      have q1 : ((gk2 + 1 : Nat) : Int) - 1 = (gk2 : Int) := by omega
      rw [q1]
      have h0 : (0 : Int) ≤ (gk2 : Int) := by omega
      have h8 : (gk2 : Int) < 8 := by omega
      have hgn : gk2 < 8 := by omega
      obtain ⟨m, hm⟩ : ∃ m, m = n / 2 ^ (8 * (8 - (gk2 + 1))) := ⟨_, rfl⟩
      rw [← hm]
      have HM : Aside0 (m / 256 = n / 2 ^ (8 * (8 - gk2))) := ⟨by
        rw [hm, Nat.div_div_eq_div_mul, show (256 : Nat) = 2 ^ 8 from rfl, ← Nat.pow_add]
        congr 2
        omega⟩
      have HV : Aside0 ((m : Int) % 256 = ((UInt8.ofNat (n / 2 ^ (8 * (7 - gk2)))).toNat : Int)) := ⟨by
        rw [UInt8.toNat_ofNat', hm, show 8 - (gk2 + 1) = 7 - gk2 by omega]
        omega⟩
      have hmb : (m : Int) ≤ 1152921504606846976 := by
        have h1 : m ≤ n := by rw [hm]; exact Nat.div_le_self _ _
        have := HN.out
        omega
      have c1 := HS.out.cell gk2 _ (b8s_get (be8N n (gk2 + 1)) gk2 (by rw [be8N_length _ _ hg8]; exact hgn))
      have f1 := HS.out.frozen gk2 (by rw [b8s_length, be8N_length _ _ hg8]; exact hgn)
      have HG := Aside0.mk (And.intro hgn hg8)
      clear hm hgn hg8
      go_wp2
      go_roundg gk2
      case measure => omega
      case rel =>
        refine ⟨by have := HG.out; omega, rfl, by rw [← HM.out]; rfl, ?_, HB.out.setCell (Nat.le_refl _) _⟩
        have h2 := HS.out.set gk2 (by rw [b8s_length, be8N_length _ _ HG.out.2]; exact HG.out.1) (.int .u8 ((UInt8.ofNat (n / 2 ^ (8 * (7 - gk2)))).toNat : Int))
        rw [b8s_set, be8N_set n gk2 HG.out.1, ← HV.out] at h2
        exact h2
theorem refFrame_any (a : ByteArray) (ha : a.size ≤ 140737488351232) (w : World) :
    Calls Try.prog 40 #[.string a] w fun e w' => e = .returned (.string (frameW a)) ∧ Below w.heap.size w w' := by
  obtain ⟨t, ht⟩ : ∃ t, t = bs (be8 a.size) := ⟨_, rfl⟩
  have hts : t.size = 8 := by rw [ht, bs_size, be8_length]
  obtain ⟨p, hp⟩ : ∃ p, p = pad a.size := ⟨_, rfl⟩
  have HE : Aside0 (∀ w, Calls Try.prog 61 #[.int .i64 a.size] w fun e w' => e = .returned (.string t) ∧ Below w.heap.size w w') := ⟨fun w => by rw [ht]; exact eight_any a.size (by omega) w⟩
  obtain ⟨s, hs⟩ : ∃ s, s = t ++ a := ⟨_, rfl⟩
  have hss : s.size = 8 + a.size := by rw [hs, ByteArray.size_append, hts]
  obtain ⟨r, hr⟩ : ∃ r, r = s.size % 16 := ⟨_, rfl⟩
  obtain ⟨q, hq⟩ : ∃ q, q = 16 - r := ⟨_, rfl⟩
  have hpq : p = q % 16 := by rw [hp, pad, hq, hr, hss]
  have l1 : (9223372036854775807 < t.size + a.size) = False := eq_false (by omega)
  have e0 : t ++ a = s := hs.symm
  have e1 : (s.size : Int) % 16 = (r : Int) := by omega
  have e2 : 16 - (r : Int) = (q : Int) := by omega
  have e3 : (q : Int) % 16 = (p : Int) := by omega
  have e4 : (0 : Int) ≤ (q : Int) := by omega
  have e5 : (q : Int) ≤ 16 := by omega
  have e6 : (0 : Int) ≤ (p : Int) := by omega
  have hns : (nul p).size = p := nul_size p
  have l2 : (9223372036854775807 < s.size + (nul p).size) = False := eq_false (by rw [hns, hss]; omega)
  have hmk : ∀ W : World, (Instr.makeSlice 43 (.int .i64 p) (.int .i64 p)).run Try.prog W = .ok (.slice (some ⟨W.heap.size, 0, none⟩) p p) (W.alloc (.cells (madeCells #[.int .u8 0] p) 5)) := print_make (P := Try.prog) 43 5 .u8 1 Try.underlying43 (by kernel_rfl) (by decide) p (by omega)
  have HCV : Aside0 (∀ W : World, (convert 43 9 (.slice (some ⟨W.heap.size, 0, none⟩) p p)).run Try.prog (W.alloc (.cells (madeCells #[.int .u8 0] p) 5)) = .ok (.string (nul p)) (W.alloc (.cells (madeCells #[.int .u8 0] p) 5))) := ⟨fun W => nul_at W _ W.heap.size p p (heap_alloc_new W _) (Nat.le_refl _)⟩
  obtain ⟨C, hC⟩ : ∃ C, C = Obj.cells (madeCells #[.int .u8 0] p) 5 (0, 0) := ⟨_, rfl⟩
  rw [← hC] at hmk HCV
  have HRES : Aside0 (frameW a = s ++ nul p) := ⟨by
    rw [hs, ht, frameW, frameL, toList_length, hp]
    apply ba_ext
    simp [bs, nul]⟩
  obtain ⟨z, hz⟩ : ∃ z, z = nul p := ⟨_, rfl⟩
  rw [← hz] at HCV l2 HRES
  have HS16 := Aside0.mk (And.intro hts hss)
  rw [HRES.out]
  clear ht hs hr hq hp hpq hC hz hns ha hts hss
  have HB := Aside0.mk (Below.refl w.heap.size w)
  go_enter Try.func40, Try.ntmps40
  go_wp2_with (go_at_call 61; (with_reducible refine (HE.out _).mono ?_); rintro e w1 ⟨rfl, hb⟩; have n1 := Aside0.mk (HB.out.trans (hb.mono HB.out.size)); clear HB hb; have HB := n1; clear n1; have hconv := HCV.out w1)
  go_ret
  exact ⟨rfl, HB.out.alloc HB.out.size _⟩
/-- What hamperref10.Frame tells. -/
def ref10_Frame.f (a : ByteArray) : Option ByteArray := if a.size ≤ 140737488351232 then some (frameW a) else none
theorem ref10_Frame.calls (a r : ByteArray) (w : World) (h : ref10_Frame.f a = some r) : Calls Try.prog 40 #[.string a] w fun e w' => e = .returned (.string r) ∧ Below w.heap.size w w' := by
  unfold ref10_Frame.f at h
  split at h
  · rename_i hd
    obtain rfl := Option.some.inj h
    exact refFrame_any a hd w
  · cases h
/-- What hamperref10.xor tells. -/
def ref10_xor.f (a b : ByteArray) : Option ByteArray := if a.size = 16 ∧ b.size = 16 then some (xorW a b) else none
theorem ref10_xor.calls (a b r : ByteArray) (w : World) (h : ref10_xor.f a b = some r) : Calls Try.prog 42 #[.string a, .string b] w fun e w' => e = .returned (.string r) ∧ Below w.heap.size w w' := by
  unfold ref10_xor.f at h
  split at h
  · rename_i hd
    obtain rfl := Option.some.inj h
    exact refXor_any a b hd.1 hd.2 w
  · cases h
/-- What hamperref09.Encrypt tells. -/
def ref09_Encrypt.f (k b : ByteArray) : Option ByteArray := if k.size = 32 ∧ b.size = 16 then some (encW k b) else none
theorem ref09_Encrypt.calls (k b r : ByteArray) (w : World) (h : ref09_Encrypt.f k b = some r) : Calls Try.prog 41 #[.string k, .string b] w fun e w' => e = .returned (.string r) ∧ Below w.heap.size w w' := by
  unfold ref09_Encrypt.f at h
  split at h
  · rename_i hd
    obtain rfl := Option.some.inj h
    exact refEnc_any k b hd.1 hd.2 w
  · cases h
/-- What hamperref09.Decrypt tells. -/
def ref09_Decrypt.f (k b : ByteArray) : Option ByteArray := if k.size = 32 ∧ b.size = 16 then some (decW k b) else none
theorem ref09_Decrypt.calls (k b r : ByteArray) (w : World) (h : ref09_Decrypt.f k b = some r) : Calls Try.prog 43 #[.string k, .string b] w fun e w' => e = .returned (.string r) ∧ Below w.heap.size w w' := by
  unfold ref09_Decrypt.f at h
  split at h
  · rename_i hd
    obtain rfl := Option.some.inj h
    exact refDec_any k b hd.1 hd.2 w
  · cases h
end Go.Proofs.Ytdegeodegjmddaa.Given
