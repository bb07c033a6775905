/- Contracts of AES' functions on one block: with, swapped, rows, columns, times. Conditions: blocks of 16 bytes. -/
import Derived.Test.YtfbcgpgpfpnpnaaAesS
namespace Go.Proofs.Ytfbcgpgpfpnpnaa.Given
open Go.RowKit Go.Proofs.YtfbcgpgpfpnpnaaW.PrintWords Go.Proofs.YtfbcgpgpfpnpnaaW.PrintLast Go.Proofs.YtfbcgpgpfpnpnaaW.PrintMore
open Go.Proofs.Ytfbcgpgpfpnpnaa.Row Go.Proofs.Ytfbcgpgpfpnpnaa.Aes
set_option maxRecDepth 100000
set_option linter.unusedVariables false
set_option linter.unusedSimpArgs false
attribute [-simp] Try.isAgg44 Try.sizeOf44 Try.isAgg47 Try.sizeOf47 Try.isAgg52 Try.sizeOf52

/-- A byte out of a block that is a value. -/
theorem index_block (s : List UInt8) (i : Nat) (h : i < 16) (hs : s.length = 16) (w : World) : (Instr.index 44 (.agg (b8s s).toArray) (.int .i64 (i : Int))).run Try.prog w = .ok (.int .u8 (gb s i).toNat) w := by
  have h1 : (0 : Int) ≤ (i : Int) ∧ (i : Int) < 16 := by omega
  have h2 := b8s_get s i (by omega)
  simp [Instr.index, go_sem, h1, part, h2]
  omega
theorem infoS : (Try.prog.info? 44).map (·.size) = some 16 := by kernel_rfl
theorem At.zeros {w : World} {t : TypeId} {g : Nat} (hg : g = w.heap.size) : At (w.alloc (.cells #[.int .u8 0, .int .u8 0, .int .u8 0, .int .u8 0, .int .u8 0, .int .u8 0, .int .u8 0, .int .u8 0, .int .u8 0, .int .u8 0, .int .u8 0, .int .u8 0, .int .u8 0, .int .u8 0, .int .u8 0, .int .u8 0] t (0, 0))) g t (b8s (List.replicate 16 0)) :=
  At.newAt hg
theorem zeros16 : b8s (List.replicate 16 0) = [.int .u8 0, .int .u8 0, .int .u8 0, .int .u8 0, .int .u8 0, .int .u8 0, .int .u8 0, .int .u8 0, .int .u8 0, .int .u8 0, .int .u8 0, .int .u8 0, .int .u8 0, .int .u8 0, .int .u8 0, .int .u8 0] := rfl

set_option maxHeartbeats 1000000 in
theorem with_any (s k : List UInt8) (hs : s.length = 16) (hk : k.length = 16) (w : World) :
    Calls Try.prog 34 #[.agg (b8s s).toArray, .agg (b8s k).toArray] w fun e w' => e = .returned (.agg (b8s (withL s k)).toArray) ∧ Below w.heap.size w w' := by
  have HS := Aside0.mk hs
  have HK := Aside0.mk hk
  clear hs hk
  go_enter Try.func34, Try.ntmps34
  go_wp2
  go_loopg [6] 16 (fun gg s6 wx => ∃ (i : Nat) (l : List UInt8), i + gg = 16 ∧ s6 = .int .i64 i ∧ At wx w.heap.size 44 (b8s l) ∧ At wx (w.heap.size + 1) 44 (b8s k) ∧
    Part (withF s k) s i l ∧ Below w.heap.size w wx ∧ At wx (w.heap.size + 1 + 1) 44 (b8s (List.replicate 16 0)))
  case atStart => exact ⟨0, s, by omega, rfl, ((At.newAt rfl).alloc _).alloc _, (At.newAt (by simp)).alloc _, Part.start _ HS.out, (((Below.refl _ w).alloc (Nat.le_refl _) _).alloc (by simp) _).alloc (by simp; omega) _, At.zeros (by simp)⟩
  case round =>
    obtain ⟨i, l, hig, rfl, hl, hk, hR, hb, hz⟩ := hrel
    have HL := Aside0.mk hl; have HKr := Aside0.mk hk; have HRR := Aside0.mk hR; have HBB := Aside0.mk hb; have HZ := Aside0.mk hz
    clear hl hk hR hb hz
    cases gk with
    | zero =>
      have hi : i = 16 := by omega
      subst hi
      go_wp2_with (first | ((with_reducible refine gate_dst (N := 18) rfl ?_); refine HL.out.load _ _ rfl rfl rfl _ Try.underlying44 rfl (by rw [b8s_length, HRR.out.1]; exact infoS) ?_) | (refine HZ.out.store _ _ _ (b8s l) rfl rfl rfl rfl (by simp [HRR.out.1]) (by rw [b8s_length, HRR.out.1]; exact infoS) (At.one8 l) ?_))
      refine bodyPost_ret ((HZ.out.setRow _).ret rfl _ _ rfl Try.underlying44 rfl (by rw [b8s_length, HRR.out.1]; exact infoS)) rfl ⟨by rw [HRR.out.done]; rfl, At.row_below HBB.out (by omega) _⟩
    | succ gk =>
      have hi : i < 16 := by omega
      have c1 := HL.out.cell8 i (by rw [HRR.out.1]; exact hi)
      have c2 := HKr.out.cell8 i (by rw [HK.out]; exact hi)
      have f1 := HL.out.frozen i
      go_wp2
      go_still_tail 8, (by kernel_rfl)
      change wpList _ _ _ _ _ wr.drew
      have c1' : wr.drew.cell? { block := w.heap.size, off := i } = some (Value.int IntKind.u8 ↑(gb l i).toNat) := c1
      have f1' : wr.drew.frozen? { block := w.heap.size, off := i } = false := f1
      go_wp2
      rw [u8x]
      go_roundg gk
      case measure => omega
      case rel => exact ⟨i + 1, l.set i (gb l i ^^^ gb k i), by omega, by go_num, HL.out.drewSet8 _ _, ((HKr.out.other _ _ (by simp)).drew), HRR.out.next hi (by rw [HRR.out.here hi]; rfl), (HBB.out.setCell (by simp) _).drew, (HZ.out.other _ _ (by simp; omega)).drew⟩
theorem tm_zero (n : Nat) (a out : UInt8) : tm n a 0 out = out := by cases n <;> simp [tm]
theorem u8_half {n : Nat} {b : UInt8} (h : b.toNat < 2 ^ (n + 1)) : (b >>> 1).toNat < 2 ^ n := by
  have : (b >>> 1).toNat = b.toNat / 2 := by
    simp [UInt8.toNat_shiftRight, Nat.shiftRight_eq_div_pow]
  rw [this, Nat.pow_succ] at *
  omega
theorem u8_step (a : UInt8) : bits .xor .u8 ((a.toNat : Int) * 2 % 256) ((a.toNat : Int) / 128 * 27 % 256) = ((a <<< 1 ^^^ (a >>> 7) * 0x1b).toNat : Int) := by
  have key : ∀ n : Nat, n < 256 → bits .xor .u8 ((n : Int) * 2 % 256) ((n : Int) / 128 * 27 % 256) = ((UInt8.ofNat n <<< 1 ^^^ (UInt8.ofNat n >>> 7) * 0x1b).toNat : Int) := by decide +kernel
  have := key a.toNat a.toNat_lt
  rwa [UInt8.ofNat_toNat] at this
theorem u8_half_eq (b : UInt8) : (b.toNat : Int) / 2 = ((b >>> 1).toNat : Int) := by
  simp [UInt8.toNat_shiftRight, Nat.shiftRight_eq_div_pow]
theorem u8_odd (b : UInt8) : (bits .and .u8 (b.toNat : Int) 1 == 1) = decide (b &&& 1 = 1) := by
  have key : ∀ n : Nat, n < 256 → (bits .and .u8 (n : Int) 1 == 1) = decide (UInt8.ofNat n &&& 1 = 1) := by decide +kernel
  have := key b.toNat b.toNat_lt
  rwa [UInt8.ofNat_toNat] at this

theorem times_any (a b : UInt8) (w : World) :
    Calls Try.prog 37 #[.int .u8 a.toNat, .int .u8 b.toNat] w fun e w' => e = .returned (.int .u8 (times a b).toNat) ∧ w = w' := by
  obtain ⟨r, hr⟩ : ∃ r, r = times a b := ⟨_, rfl⟩
  have HR := Aside0.mk hr
  rw [← hr]
  clear hr
  go_enter Try.func37, Try.ntmps37
  go_wp2
  go_loopg [0, 1, 5] 8 (fun gg s0 s1 s5 wx => ∃ (x y o : UInt8), s0 = .int .u8 x.toNat ∧ s1 = .int .u8 y.toNat ∧ s5 = .int .u8 o.toNat ∧ y.toNat < 2 ^ gg ∧ tm gg x y o = r ∧ w = wx)
  case atStart => exact ⟨a, b, 0, rfl, rfl, rfl, b.toNat_lt, HR.out.symm, rfl⟩
  case round =>
    obtain ⟨x, y, o, rfl, rfl, rfl, hy, ht, rfl⟩ := hrel
    have HY := Aside0.mk hy
    have HT := Aside0.mk ht
    clear hy ht
    by_cases h0 : y = 0
    · subst h0
      go_wp2
      go_ret
      exact ⟨by rw [← HT.out, tm_zero]; rfl, rfl⟩
    · have hp : (0 : Int) < (y.toNat : Int) := by
        have : y.toNat ≠ 0 := fun e => h0 (UInt8.toNat_inj.1 (by simpa using e))
        omega
      cases gk with
      | zero => exact absurd HY.out (by have : y.toNat ≠ 0 := fun e => h0 (UInt8.toNat_inj.1 (by simpa using e)); omega)
      | succ gk =>
        have hstep := HT.out
        rw [tm, if_neg h0] at hstep
        have hO := u8_odd y
        by_cases h1 : y &&& 1 = 1
        · rw [if_pos h1] at hstep
          have HS := Aside0.mk hstep
          simp only [h1, decide_true] at hO
          clear hstep
          go_wp2
          rw [u8x, u8_step]
          go_roundg gk
          case measure => omega
          case rel => exact ⟨_, _, _, rfl, congrArg (Value.int .u8) (u8_half_eq y), rfl, u8_half HY.out, HS.out, rfl⟩
        · rw [if_neg h1] at hstep
          have HS := Aside0.mk hstep
          simp only [h1, decide_false] at hO
          clear hstep
          go_wp2
          rw [u8_step]
          go_roundg gk
          case measure => omega
          case rel => exact ⟨_, _, _, rfl, congrArg (Value.int .u8) (u8_half_eq y), rfl, u8_half HY.out, HS.out, rfl⟩

set_option maxHeartbeats 1000000 in
theorem swapped_any (s by_ : List UInt8) (hs : s.length = 16) (hk : by_.length = 256) (w : World) :
    Calls Try.prog 31 #[.agg (b8s s).toArray, .agg (b8s by_).toArray] w fun e w' => e = .returned (.agg (b8s (swapL s by_)).toArray) ∧ Below w.heap.size w w' := by
  have HS := Aside0.mk hs
  have HK := Aside0.mk hk
  clear hs hk
  go_enter Try.func31, Try.ntmps31
  go_wp2_with ((with_reducible refine gate_dst (N := 7) rfl ?_); refine (At.alloc (At.alloc (At.newAt (cs := b8s s) rfl) _) _).load _ _ rfl rfl rfl _ Try.underlying44 rfl (by rw [b8s_length, HS.out]; exact infoS) ?_)
  go_loopg [8] 16 (fun gg s8 wx => ∃ (i : Nat) (l : List UInt8), i + gg = 16 ∧ s8 = .int .i64 i ∧ At wx w.heap.size 44 (b8s l) ∧ At wx (w.heap.size + 1) 47 (b8s by_) ∧
    Part (swapF s by_) s i l ∧ Below w.heap.size w wx ∧ At wx (w.heap.size + 1 + 1) 44 (b8s (List.replicate 16 0)))
  case atStart => exact ⟨0, s, by omega, rfl, ((At.newAt rfl).alloc _).alloc _, (At.newAt (by simp)).alloc _, Part.start _ HS.out, (((Below.refl _ w).alloc (Nat.le_refl _) _).alloc (by simp) _).alloc (by simp; omega) _, At.zeros (by simp)⟩
  case round =>
    obtain ⟨i, l, hig, rfl, hl, hk, hR, hb, hz⟩ := hrel
    have HL := Aside0.mk hl; have HKr := Aside0.mk hk; have HRR := Aside0.mk hR; have HBB := Aside0.mk hb; have HZ := Aside0.mk hz
    clear hl hk hR hb hz
    cases gk with
    | zero =>
      have hi : i = 16 := by omega
      subst hi
      go_wp2_with (first | ((with_reducible refine gate_dst (N := 18) rfl ?_); refine HL.out.load _ _ rfl rfl rfl _ Try.underlying44 rfl (by rw [b8s_length, HRR.out.1]; exact infoS) ?_) | (refine HZ.out.store _ _ _ (b8s l) rfl rfl rfl rfl (by simp [HRR.out.1]) (by rw [b8s_length, HRR.out.1]; exact infoS) (At.one8 l) ?_))
      refine bodyPost_ret ((HZ.out.setRow _).ret rfl _ _ rfl Try.underlying44 rfl (by rw [b8s_length, HRR.out.1]; exact infoS)) rfl ⟨by rw [HRR.out.done]; rfl, At.row_below HBB.out (by omega) _⟩
    | succ gk =>
      have hi : i < 16 := by omega
      have c0 := index_block s i hi HS.out
      have hlt := (gb s i).toNat_lt
      have c2 := HKr.out.cell8 (gb s i).toNat (by rw [HK.out]; exact hlt)
      have c1 := HL.out.cell8 i (by rw [HRR.out.1]; exact hi)
      have f1 := HL.out.frozen i
      go_wp2
      have HC := Aside0.mk (HRR.out.next hi (b := gb by_ (gb s i).toNat) rfl)
      go_roundg gk
      case measure => omega
      case rel => exact ⟨i + 1, _, by omega, by go_num, HL.out.set8 _ _, (HKr.out.other _ _ (by simp)), HC.out, (HBB.out.setCell (by simp) _), (HZ.out.other _ _ (by simp; omega))⟩

set_option maxHeartbeats 1000000 in
theorem rows_any (s : List UInt8) (n : Nat) (hs : s.length = 16) (hn : n = 1 ∨ n = 3) (w : World) :
    Calls Try.prog 32 #[.agg (b8s s).toArray, .int .i64 n] w fun e w' => e = .returned (.agg (b8s (rowL s n)).toArray) ∧ Below w.heap.size w w' := by
  have HS := Aside0.mk hs
  have HN := Aside0.mk hn
  clear hs hn
  go_enter Try.func32, Try.ntmps32
  go_wp2
  go_loopg [9] 16 (fun gg s9 wx => ∃ (i : Nat) (l : List UInt8), i + gg = 16 ∧ s9 = .int .i64 i ∧ At wx w.heap.size 44 (b8s s) ∧ At wx (w.heap.size + 1 + 1) 44 (b8s l) ∧
    Part (rowF s n) (List.replicate 16 0) i l ∧ Below w.heap.size w wx ∧ At wx (w.heap.size + 1) 44 (b8s (List.replicate 16 0)))
  case atStart => exact ⟨0, List.replicate 16 0, by omega, rfl, ((At.newAt rfl).alloc _).alloc _, At.zeros (by simp), Part.start _ rfl, (((Below.refl _ w).alloc (Nat.le_refl _) _).alloc (by simp) _).alloc (by simp; omega) _, (At.zeros (by simp)).alloc _⟩
  case round =>
    obtain ⟨i, l, hig, rfl, hl, hk, hR, hb, hz⟩ := hrel
    have HL := Aside0.mk hl; have HKr := Aside0.mk hk; have HRR := Aside0.mk hR; have HBB := Aside0.mk hb; have HZ := Aside0.mk hz
    clear hl hk hR hb hz
    cases gk with
    | zero =>
      have hi : i = 16 := by omega
      subst hi
      go_wp2_with (first | ((with_reducible refine gate_dst (N := 30) rfl ?_); refine HKr.out.load _ _ rfl rfl rfl _ Try.underlying44 rfl (by rw [b8s_length, HRR.out.1]; exact infoS) ?_) | (refine HZ.out.store _ _ _ (b8s l) rfl rfl rfl rfl (by simp [HRR.out.1]) (by rw [b8s_length, HRR.out.1]; exact infoS) (At.one8 l) ?_))
      refine bodyPost_ret ((HZ.out.setRow _).ret rfl _ _ rfl Try.underlying44 rfl (by rw [b8s_length, HRR.out.1]; exact infoS)) rfl ⟨by rw [HRR.out.done]; rfl, At.row_below HBB.out (by omega) _⟩
    | succ gk =>
      have hi : i < 16 := by omega
      obtain ⟨p, hp⟩ : ∃ p, p = i % 4 * n := ⟨_, rfl⟩
      have hp9 : p ≤ 9 := by rcases HN.out with rfl | rfl <;> omega
      have e1 : wrap64 ((i : Int) % 4 * (n : Int)) = (p : Int) := by
        rw [show (i : Int) % 4 * (n : Int) = (p : Int) by rw [hp]; push_cast; rfl]
        exact wrap64_of_bounds (by omega) (by omega)
      have HP := Aside0.mk hp
      clear hp
      have c2 := HL.out.cell8 (i % 4 + 4 * ((i / 4 + p) % 4)) (by rw [HS.out]; omega)
      have c1 := HKr.out.cell8 i (by rw [HRR.out.1]; exact hi)
      have f1 := HKr.out.frozen i
      go_wp2
      have HC := Aside0.mk (HRR.out.next hi (b := gb s (i % 4 + 4 * ((i / 4 + p) % 4))) (by rw [HP.out]; rfl))
      go_roundg gk
      case measure => omega
      case rel => exact ⟨i + 1, _, by omega, by go_num, (HL.out.other _ _ (by simp; omega)), HKr.out.set8 _ _, HC.out, (HBB.out.setCell (by simp; omega) _), (HZ.out.other _ _ (by simp))⟩

theorem times_q (a b : UInt8) (w : World) : Calls Try.prog 37 #[.int .u8 a.toNat, .int .u8 b.toNat] w fun e w' => e = .returned (.int .u8 (times a b).toNat) ∧ w' = w :=
  (times_any a b w).mono fun e w' h => ⟨h.1, h.2.symm⟩
set_option maxHeartbeats 1000000 in
theorem columns_any (s by_ : List UInt8) (hs : s.length = 16) (hn : by_.length = 4) (w : World) :
    Calls Try.prog 33 #[.agg (b8s s).toArray, .agg (b8s by_).toArray] w fun e w' => e = .returned (.agg (b8s (colL s by_)).toArray) ∧ Below w.heap.size w w' := by
  have HS := Aside0.mk hs
  have HN := Aside0.mk hn
  clear hs hn
  go_enter Try.func33, Try.ntmps33
  go_wp2
  go_loopg [10] 16 (fun gg s10 wx => ∃ (i : Nat) (l : List UInt8), i + gg = 16 ∧ s10 = .int .i64 i ∧ At wx w.heap.size 44 (b8s s) ∧ At wx (w.heap.size + 1) 52 (b8s by_) ∧ At wx (w.heap.size + 1 + 1 + 1) 44 (b8s l) ∧
    Part (colF s by_) (List.replicate 16 0) i l ∧ Below w.heap.size w wx ∧ At wx (w.heap.size + 1 + 1) 44 (b8s (List.replicate 16 0)))
  case atStart => exact ⟨0, List.replicate 16 0, by omega, rfl, (((At.newAt rfl).alloc _).alloc _).alloc _, ((At.newAt (by simp)).alloc _).alloc _, At.zeros (by simp), Part.start _ rfl, ((((Below.refl _ w).alloc (Nat.le_refl _) _).alloc (by simp) _).alloc (by simp; omega) _).alloc (by simp; omega) _, (At.zeros (by simp)).alloc _⟩
  case round =>
    obtain ⟨i, l, hig, rfl, hl, hby, hk, hR, hb, hz⟩ := hrel
    have HL := Aside0.mk hl; have HBY := Aside0.mk hby; have HKr := Aside0.mk hk; have HRR := Aside0.mk hR; have HBB := Aside0.mk hb; have HZ := Aside0.mk hz
    clear hl hby hk hR hb hz
    cases gk with
    | zero =>
      have hi : i = 16 := by omega
      subst hi
      go_wp2_with (first | ((with_reducible refine gate_dst (N := 41) rfl ?_); refine HKr.out.load _ _ rfl rfl rfl _ Try.underlying44 rfl (by rw [b8s_length, HRR.out.1]; exact infoS) ?_) | (refine HZ.out.store _ _ _ (b8s l) rfl rfl rfl rfl (by simp [HRR.out.1]) (by rw [b8s_length, HRR.out.1]; exact infoS) (At.one8 l) ?_))
      refine bodyPost_ret ((HZ.out.setRow _).ret rfl _ _ rfl Try.underlying44 rfl (by rw [b8s_length, HRR.out.1]; exact infoS)) rfl ⟨by rw [HRR.out.done]; rfl, At.row_below HBB.out (by omega) _⟩
    | succ go =>
      have hi : i < 16 := by omega
      go_wp2
      rw [show decide ((i : Int) < 16) = true from decide_eq_true (by omega)]
      go_loopg [17] 4 (fun gi s17 wx => ∃ k : Nat, k + gi = 4 ∧ s17 = .int .i64 k ∧ At wx w.heap.size 44 (b8s s) ∧ At wx (w.heap.size + 1) 52 (b8s by_) ∧ At wx (w.heap.size + 1 + 1 + 1) 44 (b8s (l.set i (colP s by_ i k))) ∧
        Below w.heap.size w wx ∧ At wx (w.heap.size + 1 + 1) 44 (b8s (List.replicate 16 0)))
      case atStart =>
        refine ⟨0, by omega, rfl, HL.out, HBY.out, ?_, HBB.out, HZ.out⟩
        have : gb l i = 0 := by
          rw [HRR.out.here hi]
          have h0 : ∀ i, i < 16 → gb (List.replicate 16 0) i = 0 := by decide
          exact h0 i hi
        have e : l.set i (colP s by_ i 0) = l := by
          rw [colP, ← this, set_gb]
        rw [e]
        exact HKr.out
      case round =>
        obtain ⟨k, hkg, rfl, hl, hby, hk, hb, hz⟩ := hrel
        clear HL HBY HKr HBB HZ
        have HL := Aside0.mk hl; have HBY := Aside0.mk hby; have HKr := Aside0.mk hk; have HBB := Aside0.mk hb; have HZ := Aside0.mk hz
        clear hl hby hk hb hz
        cases gk with
        | zero =>
          have hk : k = 4 := by omega
          subst hk
          have HC := Aside0.mk (HRR.out.next hi (b := colP s by_ i 4) rfl)
          go_wp2
          go_roundg go
          case measure => omega
          case rel => exact ⟨i + 1, _, by omega, by go_num, HL.out, HBY.out, HKr.out, HC.out, HBB.out, HZ.out⟩
        | succ gk =>
          have hk : k < 4 := by omega
          have c1 := HKr.out.cell8 i (by rw [List.length_set, HRR.out.1]; exact hi)
          rw [gb_set_same _ _ _ (by rw [HRR.out.1]; exact hi)] at c1
          obtain ⟨u, hu⟩ : ∃ u, u = 4 * (i / 4) := ⟨_, rfl⟩
          obtain ⟨v, hv⟩ : ∃ v, v = u + k := ⟨_, rfl⟩
          obtain ⟨x, hx⟩ : ∃ x, x = k + 4 := ⟨_, rfl⟩
          obtain ⟨y, hy⟩ : ∃ y, y = x - i % 4 := ⟨_, rfl⟩
          obtain ⟨z, hz⟩ : ∃ z, z = y % 4 := ⟨_, rfl⟩
          have e1 : IntKind.i64.wrap (4 * ((i : Int) / 4)) = (u : Int) := by
            rw [show 4 * ((i : Int) / 4) = (u : Int) by omega]
            exact wrapi_of_bounds (by omega) (by omega)
          have e2 : IntKind.i64.wrap ((u : Int) + (k : Int)) = (v : Int) := by
            rw [show (u : Int) + (k : Int) = (v : Int) by omega]
            exact wrapi_of_bounds (by omega) (by omega)
          have e3 : IntKind.i64.wrap ((k : Int) + 4) = (x : Int) := by
            rw [show (k : Int) + 4 = (x : Int) by omega]
            exact wrapi_of_bounds (by omega) (by omega)
          have e4 : IntKind.i64.wrap ((x : Int) - (i : Int) % 4) = (y : Int) := by
            rw [show (x : Int) - (i : Int) % 4 = (y : Int) by omega]
            exact wrapi_of_bounds (by omega) (by omega)
          have e5 : (y : Int).tmod 4 = (z : Int) := by
            rw [Int.tmod_eq_emod_of_nonneg (by omega)]
            omega
          have hv16 : (v : Int) < 16 := by omega
          have hz4 : (z : Int) < 4 := by omega
          have c2 := HL.out.cell8 v (by rw [HS.out]; omega)
          have c3 := HBY.out.cell8 z (by rw [HN.out]; omega)
          have f1 := HKr.out.frozen i
          have HV := Aside0.mk (show v = 4 * (i / 4) + k by omega)
          have HZZ := Aside0.mk (show z = (k + 4 - i % 4) % 4 by omega)
          clear hu hv hx hy hz
          go_wp2
          refine wp_region_still_tail 18 (by kernel_rfl) (by kernel_rfl) ?_
          simp only [List.take_succ_cons, List.take_zero, List.drop_succ_cons, List.drop_zero]
          iterate 16 still_step
          still_call (times_q _ _ _)
          still_step
          refine wpStill_nil ?_
          change wpList _ _ _ _ _ wr.drew
          have c1' : wr.drew.cell? { block := w.heap.size + 1 + 1 + 1, off := i } = some (Value.int IntKind.u8 ↑(colP s by_ i k).toNat) := c1
          have f1' : wr.drew.frozen? { block := w.heap.size + 1 + 1 + 1, off := i } = false := f1
          clear c1 c2 c3 e1 e2 e3 e4 e5 f1
          go_wp2
          rw [u8x]
          have HC : Aside0 (colP s by_ i k ^^^ times (gb s v) (gb by_ z) = colP s by_ i (k + 1)) := ⟨by rw [colP, ← HV.out, ← HZZ.out]⟩
          go_roundg gk
          case measure => omega
          case rel =>
            refine ⟨k + 1, by omega, by go_num, (HL.out.other _ _ (by simp <;> omega)).drew, (HBY.out.other _ _ (by simp <;> omega)).drew, ?_, (HBB.out.setCell (by simp; omega) _).drew, (HZ.out.other _ _ (by simp)).drew⟩
            have := HKr.out.drewSet8 i (colP s by_ i k ^^^ times (gb s v) (gb by_ z))
            rw [List.set_set] at this
            rw [← HC.out]
            exact this
end Go.Proofs.Ytfbcgpgpfpnpnaa.Given
