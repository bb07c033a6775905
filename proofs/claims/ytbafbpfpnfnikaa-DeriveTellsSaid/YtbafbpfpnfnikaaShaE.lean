/- The contract of sha's go64. Conditions: a hash in memory; at least 64 bytes. -/
import Derived.Test.YtbafbpfpnfnikaaShaD
import Derived.StillTactics
namespace Go.Proofs.Ytbafbpfpnfnikaa.Given
open Go.RowKit Go.Proofs.YtbafbpfpnfnikaaW.PrintWords Go.Proofs.YtbafbpfpnfnikaaW.PrintLast Go.Proofs.YtbafbpfpnfnikaaW.PrintMore
open Go.Proofs.Ytbafbpfpnfnikaa.Row Go.Proofs.Ytbafbpfpnfnikaa.Row.At
set_option maxRecDepth 100000
set_option linter.unusedVariables false
set_option linter.unusedSimpArgs false
/-- Block g alone has turned; new blocks lie behind. -/
def Gr (g : Nat) (w w' : World) : Prop := w.grownBy w' (some g)
namespace Gr
variable {g : Nat} {a b c : World}
theorem refl (g : Nat) (a : World) : Gr g a a := ⟨rfl, rfl, rfl, Nat.le_refl _, fun _ _ _ => rfl⟩
theorem trans (h : Gr g a b) (k : Gr g b c) : Gr g a c :=
  ⟨k.os.trans h.os, k.tape.trans h.tape, k.output.trans h.output, Nat.le_trans h.size k.size, fun i hi hn => (k.block i (Nat.lt_of_lt_of_le hi h.size) hn).trans (h.block i hi hn)⟩
theorem alloc (h : Gr g a b) (o : Obj) : Gr g a (b.alloc o) := h.trans ⟨rfl, rfl, rfl, by simp, fun i hi _ => Below.heap_alloc b o i hi⟩
theorem below (h : Gr g a b) (hb : Below b.heap.size b c) : Gr g a c := h.trans ⟨hb.os, hb.tape, hb.output, hb.size, fun i hi _ => hb.block i hi⟩
theorem drew (h : Gr g a b) : Gr g a b.drew := h.trans ⟨rfl, rfl, rfl, Nat.le_refl _, fun _ _ _ => rfl⟩
theorem setCell (h : Gr g a b) {k : Nat} (hk : k = g ∨ a.heap.size ≤ k) (j : Nat) (v : Value) : Gr g a (b.setCell ⟨k, j, none⟩ v) :=
  ⟨h.os, h.tape, h.output, by have := h.size; simpa [World.setCell] using this, fun i hi hn => (Below.heap_setCell b ⟨k, j, none⟩ v i (fun e => by
    have e' : i = k := e
    rcases hk with rfl | hk
    · exact hn (by rw [e'])
    · omega)).trans (h.block i hi hn)⟩
theorem setRow (h : Gr g a b) {k : Nat} (hk : k = g ∨ a.heap.size ≤ k) (cs : Array Value) : Gr g a (b.setRow k cs) :=
  ⟨h.os, h.tape, h.output, by have := h.size; simpa using this, fun i hi hn => (Go.setRow_other b k i cs (fun e => by
    rcases hk with rfl | hk
    · exact hn (by rw [e])
    · omega)).trans (h.block i hi hn)⟩
theorem at_ (h : Gr g a b) {k : Nat} {t : TypeId} {cs : List Value} (ha : At a k t cs) (hk : k ≠ g) : At b k t cs := ⟨(h.block k ha.lt (by simpa using hk)).trans ha.heap⟩
theorem bel (h : Gr g a b) {B : Nat} {w0 : World} (hb : Below B w0 a) (hB : B ≤ a.heap.size) (hg : B ≤ g) : Below B w0 b := hb.grown h hB (fun k e => by cases e; exact hg)
end Gr
theorem cvt8 (x : UInt8) : (x.toNat : Int) % (4294967296 : Int) = ((x.toUInt32.toNat : Nat) : Int) := by
  rw [UInt8.toNat_toUInt32]
  have := x.toNat_lt
  omega
theorem sh24 (y : UInt32) : (y.toNat : Int) * (16777216 : Int) % (4294967296 : Int) = (((y <<< 24).toNat : Nat) : Int) := by
  rw [UInt32.toNat_shiftLeft, Nat.shiftLeft_eq]; simp
theorem sh16 (y : UInt32) : (y.toNat : Int) * (65536 : Int) % (4294967296 : Int) = (((y <<< 16).toNat : Nat) : Int) := by
  rw [UInt32.toNat_shiftLeft, Nat.shiftLeft_eq]; simp
theorem sh8 (y : UInt32) : (y.toNat : Int) * (256 : Int) % (4294967296 : Int) = (((y <<< 8).toNat : Nat) : Int) := by
  rw [UInt32.toNat_shiftLeft, Nat.shiftLeft_eq]; simp
theorem add32 (a b : UInt32) : ((a.toNat : Int) + (b.toNat : Int)) % (4294967296 : Int) = (((a + b).toNat : Nat) : Int) := by
  rw [← IntKind.wrap_u32, u32add]
theorem shr3 (y : UInt32) : (y.toNat : Int) / (8 : Int) = (((y >>> 3).toNat : Nat) : Int) := by
  rw [UInt32.toNat_shiftRight, Nat.shiftRight_eq_div_pow]; simp
theorem shr10 (y : UInt32) : (y.toNat : Int) / (1024 : Int) = (((y >>> 10).toNat : Nat) : Int) := by
  rw [UInt32.toNat_shiftRight, Nat.shiftRight_eq_div_pow]; simp
def s0 (x : UInt32) : UInt32 := rotr x 7 ^^^ rotr x 18 ^^^ (x >>> 3)
def s1 (y : UInt32) : UInt32 := rotr y 17 ^^^ rotr y 19 ^^^ (y >>> 10)
theorem turned_s0 (x : UInt32) (w : World) : Calls Try.prog 55 #[.int .u32 x.toNat, .int .i64 7, .int .i64 18, .int .u32 (x >>> 3).toNat] w fun e w' => e = .returned (.int .u32 (s0 x).toNat) ∧ w' = w := turned_7 x (x >>> 3) w
theorem turned_s1 (x : UInt32) (w : World) : Calls Try.prog 55 #[.int .u32 x.toNat, .int .i64 17, .int .i64 19, .int .u32 (x >>> 10).toNat] w fun e w' => e = .returned (.int .u32 (s1 x).toNat) ∧ w' = w := turned_17 x (x >>> 10) w
def S6 (x : UInt32) : UInt32 := rotr x 6 ^^^ rotr x 11 ^^^ rotr x 25
def S2 (x : UInt32) : UInt32 := rotr x 2 ^^^ rotr x 13 ^^^ rotr x 22
theorem turned_S6 (x : UInt32) (w : World) : Calls Try.prog 55 #[.int .u32 x.toNat, .int .i64 6, .int .i64 11, .int .u32 (rotr x 25).toNat] w fun e w' => e = .returned (.int .u32 (S6 x).toNat) ∧ w' = w := turned_6 x (rotr x 25) w
theorem turned_S2 (x : UInt32) (w : World) : Calls Try.prog 55 #[.int .u32 x.toNat, .int .i64 2, .int .i64 13, .int .u32 (rotr x 22).toNat] w fun e w' => e = .returned (.int .u32 (S2 x).toNat) ∧ w' = w := turned_2 x (rotr x 22) w
theorem sum2 (a b : UInt32) : ((a.toNat : Int) + (b.toNat : Int)) % (4294967296 : Int) = (((a + b).toNat : Nat) : Int) := add32 a b
theorem sum4 (a b c d : UInt32) : ((a.toNat : Int) + (b.toNat : Int) + (c.toNat : Int) + (d.toNat : Int)) % (4294967296 : Int) = (((a + b + c + d).toNat : Nat) : Int) := by
  simp only [UInt32.toNat_add]
  omega
theorem sum5 (a b c d e : UInt32) : ((a.toNat : Int) + (b.toNat : Int) + (c.toNat : Int) + (d.toNat : Int) + (e.toNat : Int)) % (4294967296 : Int) = (((a + b + c + d + e).toNat : Nat) : Int) := by
  simp only [UInt32.toNat_add]
  omega
theorem u32not (x : UInt32) : bits .xor .u32 (if IntKind.u32.signed = true then -1 else IntKind.u32.max) (x.toNat : Int) = (((~~~x).toNat : Nat) : Int) := by
  have e : (if IntKind.u32.signed = true then (-1 : Int) else IntKind.u32.max) = (((0xffffffff : UInt32).toNat : Nat) : Int) := by decide +kernel
  rw [e, u32xor]
  congr 2
def rndX (k w : UInt32) (s : List UInt32) : UInt32 := gw s 7 + S6 (gw s 4) + ((gw s 4 &&& gw s 5) ^^^ (~~~(gw s 4) &&& gw s 6)) + k + w
def rndY (s : List UInt32) : UInt32 := S2 (gw s 0) + ((gw s 0 &&& gw s 1) ^^^ (gw s 0 &&& gw s 2) ^^^ (gw s 1 &&& gw s 2))
def rnd (k w : UInt32) (s : List UInt32) : List UInt32 := [rndX k w s + rndY s, gw s 0, gw s 1, gw s 2, gw s 3 + rndX k w s, gw s 4, gw s 5, gw s 6]
theorem valX (k w : UInt32) (q : List UInt32) : (((gw q 7).toNat : Int) + ((S6 (gw q 4)).toNat : Int) + bits .xor .u32 (bits .and .u32 ((gw q 4).toNat : Int) ((gw q 5).toNat : Int)) (bits .and .u32 (bits .xor .u32 (if IntKind.u32.signed = true then -1 else IntKind.u32.max) ((gw q 4).toNat : Int)) ((gw q 6).toNat : Int)) + (k.toNat : Int)) % (4294967296 : Int) + (w.toNat : Int) = ((gw q 7 + S6 (gw q 4) + ((gw q 4 &&& gw q 5) ^^^ (~~~(gw q 4) &&& gw q 6)) + k).toNat : Int) + (w.toNat : Int) := by
  rw [u32not, u32and, u32and, u32xor, sum4]
theorem valY (q : List UInt32) : (((S2 (gw q 0)).toNat : Int) + bits .xor .u32 (bits .xor .u32 (bits .and .u32 ((gw q 0).toNat : Int) ((gw q 1).toNat : Int)) (bits .and .u32 ((gw q 0).toNat : Int) ((gw q 2).toNat : Int))) (bits .and .u32 ((gw q 1).toNat : Int) ((gw q 2).toNat : Int))) % (4294967296 : Int) = ((rndY q).toNat : Int) := by
  rw [u32and, u32and, u32and, u32xor, u32xor, sum2, rndY]
def wordOf (b : List UInt8) (i : Nat) : UInt32 := (gb b (4 * i)).toUInt32 <<< 24 ||| (gb b (4 * i + 1)).toUInt32 <<< 16 ||| (gb b (4 * i + 2)).toUInt32 <<< 8 ||| (gb b (4 * i + 3)).toUInt32
def wNext (r : List UInt32) (i : Nat) : UInt32 := gw r (i - 16) + gw r (i - 7) + s0 (gw r (i - 15)) + s1 (gw r (i - 2))
def wRow (b : List UInt8) : Nat → List UInt32
  | 0 => List.replicate 64 0
  | i + 1 => (wRow b i).set i (if i < 16 then wordOf b i else wNext (wRow b i) i)
theorem wRow_length (b : List UInt8) : ∀ i, (wRow b i).length = 64
  | 0 => by simp [wRow]
  | i + 1 => by simp [wRow, wRow_length b i]
def rnds (r : List UInt32) (s : List UInt32) : Nat → List UInt32
  | 0 => s
  | i + 1 => rnd (gw KK i) (gw r i) (rnds r s i)
theorem rnds_length (r s : List UInt32) (h : s.length = 8) : ∀ i, (rnds r s i).length = 8
  | 0 => h
  | i + 1 => by simp [rnds, rnd]
/-- the state behind 64 bytes -/
def go64S (s : List UInt32) (b : List UInt8) : List UInt32 := List.zipWith (· + ·) s (rnds (wRow b 64) s 64)
theorem go64S_length (s : List UInt32) (b : List UInt8) (h : s.length = 8) : (go64S s b).length = 8 := by rw [go64S, List.length_zipWith, h, rnds_length _ _ h]; rfl
/-- the state while the rounds' state is added -/
def addN (s q : List UInt32) (i : Nat) : List UInt32 := (List.zipWith (· + ·) s q).take i ++ s.drop i
theorem addN_length (s q : List UInt32) (i : Nat) (hs : s.length = 8) (hq : q.length = 8) : (addN s q i).length = 8 := by
  simp only [addN, List.length_append, List.length_take, List.length_zipWith, List.length_drop, hs, hq]; omega
theorem addN_get (s q : List UInt32) (i : Nat) (hs : s.length = 8) (hq : q.length = 8) (h : i < 8) : gw (addN s q i) i = gw s i := by
  have ht : ((List.zipWith (· + ·) s q).take i).length = i := by simp only [List.length_take, List.length_zipWith, hs, hq]; omega
  rw [gw, gw, List.getD_eq_getElem?_getD, List.getD_eq_getElem?_getD, addN, List.getElem?_append_right (by omega), ht, Nat.sub_self, List.getElem?_drop]
  rfl
theorem addN_set (s q : List UInt32) (i : Nat) (hs : s.length = 8) (hq : q.length = 8) (h : i < 8) : (addN s q i).set i (gw s i + gw q i) = addN s q (i + 1) := by
  have hz : (List.zipWith (· + ·) s q).length = 8 := by rw [List.length_zipWith, hs, hq]; rfl
  have ht : ((List.zipWith (· + ·) s q).take i).length = i := by rw [List.length_take]; omega
  rw [addN, addN, List.set_append_right _ _ (by omega), ht, Nat.sub_self, ← List.take_append_getElem (by omega : i < (List.zipWith (· + ·) s q).length), List.append_assoc, ← List.getElem_cons_drop (by omega : i < s.length), List.set_cons_zero]
  congr 2
  simp [gw, List.getD_eq_getElem?_getD, hs, hq, h]
theorem addN_end (s q : List UInt32) (hs : s.length = 8) (hq : q.length = 8) : addN s q 8 = List.zipWith (· + ·) s q := by
  rw [addN, List.take_of_length_le (by rw [List.length_zipWith, hs, hq]; exact Nat.le_refl _), List.drop_of_length_le (by omega), List.append_nil]
theorem infoW64 : (Try.prog.info? 51).map (·.size) = some 64 := by kernel_rfl
theorem infoS8 : (Try.prog.info? 49).map (·.size) = some 8 := by kernel_rfl
attribute [-simp] Try.isAgg53 Try.sizeOf53 Try.isAgg51 Try.sizeOf51 Try.isAgg49 Try.sizeOf49
theorem index_strS (b : ByteArray) (i : Nat) (h : i < b.size) (w : World) : (Instr.index 9 (.string b) (.int .i64 (i : Int))).run Try.prog w = .ok (.int .u8 (gb b.data.toList i).toNat) w := by
  have h1 : (0 : Int) ≤ (i : Int) ∧ (i : Int) < (b.size : Int) := by omega
  simp [Instr.index, go_sem, h1, gb, List.getD_eq_getElem?_getD]
  have h2 : i < b.data.size := h
  have h3 : b.data[i]? = some b.data[i] := Array.getElem?_eq_getElem h2
  rw [getElem?_pos b i h, h3]
  rfl
set_option maxHeartbeats 2000000 in
theorem go64_any (s : List UInt32) (rest : ByteArray) (many : Nat) (b : ByteArray) (hs : s.length = 8) (hb : 64 ≤ b.size) (g : Nat) (w : World) (h : At w g 53 (hCells s rest many KK)) :
    Calls Try.prog 44 #[.pointer (some ⟨g, 0, none⟩), .string b] w fun e w' => e = .returned (.tuple #[]) ∧ At w' g 53 (hCells (go64S s b.data.toList) rest many KK) ∧ Gr g w w' := by
  have HS := Aside0.mk hs
  have HBB := Aside0.mk hb
  have HH := Aside0.mk h
  have HGL : Aside0 (g < w.heap.size) := ⟨h.lt⟩
  clear hs hb h
  have HW0 : Aside0 (At (w.alloc (.cells (u32s (wRow b.data.toList 0)).toArray 51 (0, 0))) w.heap.size 51 (u32s (wRow b.data.toList 0))) := ⟨At.newAt rfl⟩
  have HH0 : Aside0 (At (w.alloc (.cells (u32s (wRow b.data.toList 0)).toArray 51 (0, 0))) g 53 (hCells s rest many KK)) := ⟨HH.out.alloc _⟩
  have HG0 : Aside0 (Gr g w (w.alloc (.cells (u32s (wRow b.data.toList 0)).toArray 51 (0, 0)))) := ⟨(Gr.refl g w).alloc _⟩
  go_enter Try.func44, Try.ntmps44
  go_wp2
  go_loopg [13] 64 (fun gg s13 wx => ∃ i : Nat, i + gg = 64 ∧ s13 = .int .i64 i ∧ At wx w.heap.size 51 (u32s (wRow b.data.toList i)) ∧ At wx g 53 (hCells s rest many KK) ∧ Gr g w wx)
  case atStart => exact ⟨0, by omega, rfl, HW0.out, HH0.out, HG0.out⟩
  case round =>
    obtain ⟨i, hi, rfl, ha, hh, hg⟩ := hrel
    clear HW0 HH0 HG0
    have HW := Aside0.mk ha
    have HH1 := Aside0.mk hh
    have HG := Aside0.mk hg
    clear ha hh hg
    cases gk with
    | zero =>
      have hi64 : i = 64 := by omega
      subst hi64
      clear hi
      obtain ⟨R, hR⟩ : ∃ R, R = wRow b.data.toList 64 := ⟨_, rfl⟩
      rw [← hR] at HW
      have HR := Aside0.mk hR
      have HR0 := Aside0.mk hR
      have HRL : Aside0 (R.length = 64) := ⟨by rw [hR]; exact wRow_length _ _⟩
      clear hR
      have HCE : Aside0 (∀ j v, (u32s s)[j]? = some v → wr.cell? ⟨g, 0 + j, none⟩ = some v) := ⟨fun j v hj => by
        have hjl : j < 8 := by have := (List.getElem?_eq_some_iff.1 hj).1; rw [u32s_length, HS.out] at this; exact this
        rw [Nat.zero_add, HH1.out.cell j _ (hCells_state s rest many KK j HS.out hjl)]
        rw [u32s_get _ _ (by rw [HS.out]; exact hjl)] at hj
        exact hj⟩
      have z110 := Try.sizeOf49
      have HZ : Aside0 (At (wr.alloc (.cells (u32s ([0, 0, 0, 0, 0, 0, 0, 0])).toArray 49 (0, 0))) wr.heap.size 49 (u32s ([0, 0, 0, 0, 0, 0, 0, 0]))) := ⟨At.newAt rfl⟩
      go_wp2_with (first
        | ((with_reducible refine gate_dst (N := 82) rfl ?_); refine wpList_load_mid rfl _ _ rfl g 0 rfl (u32s s) _ HCE.out Try.underlying49 rfl (by rw [u32s_length, HS.out]; exact infoS8) ?_)
        | ((with_reducible refine gate_store (t := 49) (p := 8) rfl ?_); refine HZ.out.store _ _ _ (u32s s) rfl rfl rfl rfl (by rw [u32s_length, u32s_length, HS.out]; rfl) (by rw [u32s_length, HS.out]; exact infoS8) (u32s_one _) ?_))
      obtain ⟨w1, hw1⟩ : ∃ w1, w1 = (wr.alloc (.cells (u32s ([0, 0, 0, 0, 0, 0, 0, 0])).toArray 49 (0, 0))).setRow wr.heap.size (u32s s).toArray := ⟨_, rfl⟩
      have HWS : Aside0 (w.heap.size < wr.heap.size) := ⟨HW.out.lt⟩
      have HW2 : Aside0 (At w1 w.heap.size 51 (u32s R)) := ⟨by rw [hw1]; exact (HW.out.alloc _).setRow_other _ _ (by have := HWS.out; omega)⟩
      have HH2 : Aside0 (At w1 g 53 (hCells s rest many KK)) := ⟨by rw [hw1]; exact (HH1.out.alloc _).setRow_other _ _ (by have := HH1.out.lt; omega)⟩
      have HS2 : Aside0 (At w1 wr.heap.size 49 (u32s s)) := ⟨by rw [hw1]; exact HZ.out.setRow _⟩
      have HG2 : Aside0 (Gr g w w1) := ⟨by rw [hw1]; exact (HG.out.alloc _).setRow (.inr (by have := HWS.out; omega)) _⟩
      obtain ⟨sb, hsb⟩ : ∃ sb, sb = wr.heap.size := ⟨_, rfl⟩
      rw [← hsb] at HS2 HWS
      have HSG : Aside0 (g < sb) := ⟨by rw [hsb]; exact HH1.out.lt⟩
      have hws1 : w1.heap.size = sb + 1 := by rw [hw1, hsb]; simp
      rw [← hw1, ← hsb]
      clear hw1 hsb HZ HCE HW HH1 HG HR hws1
      go_loopg [83] 64 (fun gg s83 wx => ∃ i : Nat, i + gg = 64 ∧ s83 = .int .i64 i ∧ At wx w.heap.size 51 (u32s R) ∧ At wx g 53 (hCells s rest many KK) ∧ At wx sb 49 (u32s (rnds R s i)) ∧ Gr g w wx)
      case atStart => exact ⟨0, by omega, rfl, HW2.out, HH2.out, HS2.out, HG2.out⟩
      case round =>
        obtain ⟨i, hi, rfl, ha, hh, hss, hg⟩ := hrel
        clear HW2 HH2 HG2 HS2
        have HW := Aside0.mk ha
        have HH1 := Aside0.mk hh
        have HST := Aside0.mk hss
        have HG := Aside0.mk hg
        clear ha hh hg hss
        cases gk with
        | zero =>
          have hi64 : i = 64 := by omega
          subst hi64
          have HRN := Aside0.mk (rnds_length R s HS.out 64)
          obtain ⟨q, hq⟩ : ∃ q, q = rnds R s 64 := ⟨_, rfl⟩
          rw [← hq] at HST HRN
          have HQ := Aside0.mk hq
          clear hq hi z110
          go_wp2
          go_loopg [164] 8 (fun gg s164 wx => ∃ i : Nat, i + gg = 8 ∧ s164 = .int .i64 i ∧ At wx g 53 (hCells (addN s q i) rest many KK) ∧ At wx sb 49 (u32s q) ∧ Gr g w wx)
          case atStart => exact ⟨0, by omega, rfl, HH1.out, HST.out, HG.out⟩
          case round =>
            obtain ⟨i, hi, rfl, hh, hss, hg⟩ := hrel
            clear HW HH1 HST HG
            have HH1 := Aside0.mk hh
            have HST := Aside0.mk hss
            have HG := Aside0.mk hg
            clear hh hss hg
            cases gk with
            | zero =>
              have hi8 : i = 8 := by omega
              subst hi8
              go_wp2
              go_end0
              refine ⟨rfl, ?_, HG.out⟩
              have e : addN s q 8 = go64S s b.data.toList := by
                rw [addN_end s q HS.out HRN.out, go64S, HQ.out, HR0.out]
              rw [← e]
              exact HH1.out
            | succ gk =>
              have hi8 : (i : Int) < 8 := by omega
              have hin : i < 8 := by omega
              have c1 := HH1.out.cell i _ (hCells_state (addN s q i) rest many KK i (addN_length s q i HS.out HRN.out) hin)
              rw [addN_get s q i HS.out HRN.out hin] at c1
              have f1 := HH1.out.frozen i
              have c2 := HST.out.cell i _ (u32s_get q i (by rw [HRN.out]; exact hin))
              have z110 := Try.sizeOf49
              have HIN := Aside0.mk hin
              clear hin
              go_wp2
              refine wp_region_still_tail 13 (by kernel_rfl) (by kernel_rfl) ?_
              simp only [List.take_succ_cons, List.take_zero, List.drop_succ_cons, List.drop_zero]
              iterate 13 still_step
              refine wpStill_nil ?_
              change wpList _ _ _ _ _ wr.drew
              have c1' : wr.drew.cell? { block := g, off := i } = some (Value.int IntKind.u32 ↑(gw s i).toNat) := c1
              have f1' : wr.drew.frozen? { block := g, off := i } = false := f1
              clear c1 f1 c2
              go_wp2
              rw [sum2]
              go_roundg gk
              case measure => omega
              case rel =>
                refine ⟨i + 1, by omega, rfl, ?_, (HST.out.other _ _ (by have := HSG.out; dsimp; omega)).drew, (HG.out.setCell (.inl rfl) _ _).drew⟩
                have h2 := HH1.out.set i (.int .u32 ((gw s i + gw q i).toNat : Int))
                rw [hCells_set_state _ _ _ _ _ _ (addN_length s q i HS.out HRN.out) HIN.out, addN_set s q i HS.out HRN.out HIN.out] at h2
                exact h2.drew
        | succ gk =>
          have hi64 : (i : Int) < 64 := by omega
          have HRN := Aside0.mk (rnds_length R s HS.out i)
          obtain ⟨q, hq⟩ : ∃ q, q = rnds R s i := ⟨_, rfl⟩
          rw [← hq] at HST HRN
          have HQ := Aside0.mk hq
          clear hq
          have k0 := HST.out.cell 0 _ (u32s_get q 0 (by rw [HRN.out]; decide))
          have k1 := HST.out.cell 1 _ (u32s_get q 1 (by rw [HRN.out]; decide))
          have k2 := HST.out.cell 2 _ (u32s_get q 2 (by rw [HRN.out]; decide))
          have k3 := HST.out.cell 3 _ (u32s_get q 3 (by rw [HRN.out]; decide))
          have k4 := HST.out.cell 4 _ (u32s_get q 4 (by rw [HRN.out]; decide))
          have k5 := HST.out.cell 5 _ (u32s_get q 5 (by rw [HRN.out]; decide))
          have k6 := HST.out.cell 6 _ (u32s_get q 6 (by rw [HRN.out]; decide))
          have k7 := HST.out.cell 7 _ (u32s_get q 7 (by rw [HRN.out]; decide))
          have k8 := HH1.out.cell (10 + i) _ (hCells_cube s rest many KK i HS.out (by rw [KK_length]; omega))
          have k9 := HW.out.cell i _ (u32s_get R i (by rw [HRL.out]; omega))
          have z111 := Try.sizeOf51
          go_wp2
          go_quiet (first
            | (go_at_call 56; exact Calls.quiet_of_same (down_25 _ _))
            | (go_at_call 55; exact Calls.quiet_of_same (turned_S6 _ _)))
          rw [valX, sum2]
          obtain ⟨X, hX⟩ : ∃ X, X = rndX (gw KK i) (gw R i) q := ⟨_, rfl⟩
          have hX2 : gw q 7 + S6 (gw q 4) + ((gw q 4 &&& gw q 5) ^^^ (~~~(gw q 4) &&& gw q 6)) + gw KK i + gw R i = X := by rw [hX, rndX]
          rw [hX2]
          have HX := Aside0.mk hX
          clear hX hX2 k0 k1 k2 k3 k4 k5 k6 k7 k8 k9
          go_wp2
          obtain ⟨wq, hwq⟩ : ∃ wq, wq = wr.drewN nq := ⟨_, rfl⟩
          have HWq : Aside0 (At wq w.heap.size 51 (u32s R)) := ⟨by rw [hwq]; exact ⟨HW.out.heap⟩⟩
          have HHq : Aside0 (At wq g 53 (hCells s rest many KK)) := ⟨by rw [hwq]; exact ⟨HH1.out.heap⟩⟩
          have HSq : Aside0 (At wq sb 49 (u32s q)) := ⟨by rw [hwq]; exact ⟨HST.out.heap⟩⟩
          have HGq : Aside0 (Gr g w wq) := ⟨by rw [hwq]; exact HG.out.trans ⟨rfl, rfl, rfl, Nat.le_refl _, fun _ _ _ => rfl⟩⟩
          rw [← hwq]
          clear hwq HW HH1 HG HST
          have k0 := HSq.out.cell 0 _ (u32s_get q 0 (by rw [HRN.out]; decide))
          have k1 := HSq.out.cell 1 _ (u32s_get q 1 (by rw [HRN.out]; decide))
          have k2 := HSq.out.cell 2 _ (u32s_get q 2 (by rw [HRN.out]; decide))
          go_quiet (first
            | (go_at_call 56; exact Calls.quiet_of_same (down_22 _ _))
            | (go_at_call 55; exact Calls.quiet_of_same (turned_S2 _ _)))
          rw [valY]
          obtain ⟨Y, hY⟩ : ∃ Y, Y = rndY q := ⟨_, rfl⟩
          rw [← hY]
          have HY := Aside0.mk hY
          clear hY k0 k1 k2
          obtain ⟨wz, hwz⟩ : ∃ wz, wz = wq.drewN nq := ⟨_, rfl⟩
          have HWz : Aside0 (At wz w.heap.size 51 (u32s R)) := ⟨by rw [hwz]; exact ⟨HWq.out.heap⟩⟩
          have HHz : Aside0 (At wz g 53 (hCells s rest many KK)) := ⟨by rw [hwz]; exact ⟨HHq.out.heap⟩⟩
          have HSz : Aside0 (At wz sb 49 (u32s q)) := ⟨by rw [hwz]; exact ⟨HSq.out.heap⟩⟩
          have HGz : Aside0 (Gr g w wz) := ⟨by rw [hwz]; exact HGq.out.trans ⟨rfl, rfl, rfl, Nat.le_refl _, fun _ _ _ => rfl⟩⟩
          rw [← hwz]
          clear hwz HWq HHq HSq HGq
          have k0 := HSz.out.cell 0 _ (u32s_get q 0 (by rw [HRN.out]; decide))
          have k1 := HSz.out.cell 1 _ (u32s_get q 1 (by rw [HRN.out]; decide))
          have k2 := HSz.out.cell 2 _ (u32s_get q 2 (by rw [HRN.out]; decide))
          have k3 := HSz.out.cell 3 _ (u32s_get q 3 (by rw [HRN.out]; decide))
          have k4 := HSz.out.cell 4 _ (u32s_get q 4 (by rw [HRN.out]; decide))
          have k5 := HSz.out.cell 5 _ (u32s_get q 5 (by rw [HRN.out]; decide))
          have k6 := HSz.out.cell 6 _ (u32s_get q 6 (by rw [HRN.out]; decide))
          obtain ⟨Z, hZ⟩ : ∃ Z, Z = X + Y := ⟨_, rfl⟩
          obtain ⟨V, hV⟩ : ∃ V, V = gw q 3 + X := ⟨_, rfl⟩
          have m1 : ((X.toNat : Int) + (Y.toNat : Int)) % (4294967296 : Int) = ((Z.toNat : Nat) : Int) := by rw [sum2, hZ]
          have m2 : (((gw q 3).toNat : Int) + (X.toNat : Int)) % (4294967296 : Int) = ((V.toNat : Nat) : Int) := by rw [sum2, hV]
          have HZV := Aside0.mk (And.intro hZ hV)
          clear hZ hV
          go_wp2_with ((with_reducible refine gate_store (t := 49) (p := 8) rfl ?_); refine HSz.out.store _ _ _ (u32s [Z, gw q 0, gw q 1, gw q 2, V, gw q 4, gw q 5, gw q 6]) rfl rfl rfl rfl (by rw [u32s_length, HRN.out]; rfl) (by rw [u32s_length]; exact infoS8) (u32s_one _) ?_)
          go_roundg gk
          case measure => omega
          case rel =>
            refine ⟨i + 1, by omega, rfl, HWz.out.setRow_other _ _ (by have := HWS.out; omega), HHz.out.setRow_other _ _ (by have := HSG.out; omega), ?_, HGz.out.setRow (.inr (by have := HWS.out; omega)) _⟩
            have e : rnds R s (i + 1) = [Z, gw q 0, gw q 1, gw q 2, V, gw q 4, gw q 5, gw q 6] := by
              rw [rnds, ← HQ.out, rnd, ← HX.out, ← HY.out, ← HZV.out.1, ← HZV.out.2]
            rw [e]
            exact HSz.out.setRow _
    | succ gk =>
      have hi64 : (i : Int) < 64 := by omega
      by_cases h16 : i < 16
      · have h16i : (i : Int) < 16 := by omega
        obtain ⟨a0, ha0⟩ : ∃ a : Nat, a = 4 * i := ⟨_, rfl⟩
        obtain ⟨a1, ha1⟩ : ∃ a : Nat, a = 4 * i + 1 := ⟨_, rfl⟩
        obtain ⟨a2, ha2⟩ : ∃ a : Nat, a = 4 * i + 2 := ⟨_, rfl⟩
        obtain ⟨a3, ha3⟩ : ∃ a : Nat, a = 4 * i + 3 := ⟨_, rfl⟩
        have e0 : IntKind.i64.wrap (4 * (i : Int)) = (a0 : Int) := by rw [show 4 * (i : Int) = (a0 : Int) by omega]; exact wrapi_of_bounds (by omega) (by omega)
        have e1 : IntKind.i64.wrap ((a0 : Int) + 1) = (a1 : Int) := by rw [show (a0 : Int) + 1 = (a1 : Int) by omega]; exact wrapi_of_bounds (by omega) (by omega)
        have e2 : IntKind.i64.wrap ((a0 : Int) + 2) = (a2 : Int) := by rw [show (a0 : Int) + 2 = (a2 : Int) by omega]; exact wrapi_of_bounds (by omega) (by omega)
        have e3 : IntKind.i64.wrap ((a0 : Int) + 3) = (a3 : Int) := by rw [show (a0 : Int) + 3 = (a3 : Int) by omega]; exact wrapi_of_bounds (by omega) (by omega)
        have x0 := index_strS b a0 (by have := HBB.out; omega)
        have x1 := index_strS b a1 (by have := HBB.out; omega)
        have x2 := index_strS b a2 (by have := HBB.out; omega)
        have x3 := index_strS b a3 (by have := HBB.out; omega)
        have HA := Aside0.mk (And.intro ha0 (And.intro ha1 (And.intro ha2 ha3)))
        have H16 := Aside0.mk h16
        have c1 := HW.out.cell i _ (u32s_get _ i (by rw [wRow_length]; omega))
        have f1 := HW.out.frozen i
        clear ha0 ha1 ha2 ha3 h16
        go_wp2
        refine wp_region_still_tail 31 (by kernel_rfl) (by kernel_rfl) ?_
        simp only [List.take_succ_cons, List.take_zero, List.drop_succ_cons, List.drop_zero]
        iterate 31 still_step
        refine wpStill_nil ?_
        change wpList _ _ _ _ _ wr.drew
        have c1' : wr.drew.cell? { block := w.heap.size, off := i } = some (Value.int IntKind.u32 ↑(gw (wRow b.data.toList i) i).toNat) := c1
        have f1' : wr.drew.frozen? { block := w.heap.size, off := i } = false := f1
        clear e0 e1 e2 e3 x0 x1 x2 x3 c1 f1
        go_wp2
        have HV : Aside0 (bits .or .u32 (bits .or .u32 (bits .or .u32 (((gb b.data.toList a0).toNat : Int) % (4294967296 : Int) * (16777216 : Int) % (4294967296 : Int)) (((gb b.data.toList a1).toNat : Int) % (4294967296 : Int) * (65536 : Int) % (4294967296 : Int))) (((gb b.data.toList a2).toNat : Int) % (4294967296 : Int) * (256 : Int) % (4294967296 : Int))) (((gb b.data.toList a3).toNat : Int) % (4294967296 : Int)) = ((wordOf b.data.toList i).toNat : Int)) := by
          obtain ⟨r0, r1, r2, r3⟩ := HA.out
          rw [cvt8, cvt8, cvt8, cvt8, sh24, sh16, sh8, u32or, u32or, u32or, wordOf, r0, r1, r2, r3]
          exact ⟨rfl⟩
        go_roundg gk
        case measure => omega
        case rel =>
          rw [HV.out]
          refine ⟨i + 1, by omega, rfl, ?_, (HH1.out.other _ _ (by have := HGL.out; dsimp; omega)).drew, (HG.out.setCell (.inr (Nat.le_refl _)) _ _).drew⟩
          have h2 := HW.out.set i (.int .u32 ((wordOf b.data.toList i).toNat : Int))
          rw [u32s_set] at h2
          have e : wRow b.data.toList (i + 1) = (wRow b.data.toList i).set i (wordOf b.data.toList i) := by rw [wRow, if_pos H16.out]
          rw [e]
          exact h2.drew
      · have h16i : ¬ ((i : Int) < 16) := by omega
        obtain ⟨a15, h15⟩ : ∃ a : Nat, a = i - 15 := ⟨_, rfl⟩
        obtain ⟨a2, h2⟩ : ∃ a : Nat, a = i - 2 := ⟨_, rfl⟩
        obtain ⟨a16, h16b⟩ : ∃ a : Nat, a = i - 16 := ⟨_, rfl⟩
        obtain ⟨a7, h7⟩ : ∃ a : Nat, a = i - 7 := ⟨_, rfl⟩
        have e1 : IntKind.i64.wrap ((i : Int) - 15) = (a15 : Int) := by rw [show (i : Int) - 15 = (a15 : Int) by omega]; exact wrapi_of_bounds (by omega) (by omega)
        have e2 : IntKind.i64.wrap ((i : Int) - 2) = (a2 : Int) := by rw [show (i : Int) - 2 = (a2 : Int) by omega]; exact wrapi_of_bounds (by omega) (by omega)
        have e3 : IntKind.i64.wrap ((i : Int) - 16) = (a16 : Int) := by rw [show (i : Int) - 16 = (a16 : Int) by omega]; exact wrapi_of_bounds (by omega) (by omega)
        have e4 : IntKind.i64.wrap ((i : Int) - 7) = (a7 : Int) := by rw [show (i : Int) - 7 = (a7 : Int) by omega]; exact wrapi_of_bounds (by omega) (by omega)
        have b1 : (a15 : Int) < 64 := by omega
        have b2 : (a2 : Int) < 64 := by omega
        have b3 : (a16 : Int) < 64 := by omega
        have b4 : (a7 : Int) < 64 := by omega
        have c1 := HW.out.cell a15 _ (u32s_get _ a15 (by rw [wRow_length]; omega))
        have c2 := HW.out.cell a2 _ (u32s_get _ a2 (by rw [wRow_length]; omega))
        have c3 := HW.out.cell a16 _ (u32s_get _ a16 (by rw [wRow_length]; omega))
        have c4 := HW.out.cell a7 _ (u32s_get _ a7 (by rw [wRow_length]; omega))
        have c5 := HW.out.cell i _ (u32s_get _ i (by rw [wRow_length]; omega))
        have f1 := HW.out.frozen i
        have HA := Aside0.mk (And.intro h15 (And.intro h2 (And.intro h16b h7)))
        have H16 := Aside0.mk h16
        clear h15 h2 h16b h7 h16
        go_wp2
        go_quiet (fail)
        obtain ⟨x, hx⟩ : ∃ x, x = gw (wRow b.data.toList i) a15 := ⟨_, rfl⟩
        obtain ⟨y, hy⟩ : ∃ y, y = gw (wRow b.data.toList i) a2 := ⟨_, rfl⟩
        rw [← hx] at c1
        rw [← hy] at c2
        have HXY := Aside0.mk (And.intro hx hy)
        have r3 := shr3 x
        have r10 := shr10 y
        rw [← hx, ← hy]
        clear hx hy c1 c2 e1 e2
        go_wp2
        obtain ⟨wq, hwq⟩ : ∃ wq, wq = wr.drewN nq := ⟨_, rfl⟩
        have HWq : Aside0 (At wq w.heap.size 51 (u32s (wRow b.data.toList i))) := ⟨by rw [hwq]; exact ⟨HW.out.heap⟩⟩
        have HHq : Aside0 (At wq g 53 (hCells s rest many KK)) := ⟨by rw [hwq]; exact ⟨HH1.out.heap⟩⟩
        have HGq : Aside0 (Gr g w wq) := ⟨by rw [hwq]; exact HG.out.trans ⟨rfl, rfl, rfl, Nat.le_refl _, fun _ _ _ => rfl⟩⟩
        clear c3 c4 c5 f1
        have c3 := HWq.out.cell a16 _ (u32s_get _ a16 (by rw [wRow_length]; omega))
        have c4 := HWq.out.cell a7 _ (u32s_get _ a7 (by rw [wRow_length]; omega))
        have c5 := HWq.out.cell i _ (u32s_get _ i (by rw [wRow_length]; omega))
        have f1 := HWq.out.frozen i
        rw [← hwq]
        clear hwq HW HH1 HG
        refine wp_region_still_tail 21 (by kernel_rfl) (by kernel_rfl) ?_
        simp only [List.take_succ_cons, List.take_zero, List.drop_succ_cons, List.drop_zero]
        iterate 13 still_step
        still_call (turned_s0 x _)
        iterate 4 still_step
        still_call (turned_s1 y _)
        iterate 2 still_step
        refine wpStill_nil ?_
        change wpList _ _ _ _ _ wq.drew
        have c5' : wq.drew.cell? { block := w.heap.size, off := i } = some (Value.int IntKind.u32 ↑(gw (wRow b.data.toList i) i).toNat) := c5
        have f1' : wq.drew.frozen? { block := w.heap.size, off := i } = false := f1
        clear c3 c4 c5 f1 e3 e4
        go_wp2
        have HV : Aside0 (((((gw (wRow b.data.toList i) a16).toNat : Int) + ((gw (wRow b.data.toList i) a7).toNat : Int) + ((s0 x).toNat : Int) + ((s1 y).toNat : Int)) % (4294967296 : Int)) = ((wNext (wRow b.data.toList i) i).toNat : Int)) := by
          obtain ⟨q1, q2, q3, q4⟩ := HA.out
          rw [sum4, wNext, HXY.out.1, HXY.out.2, q1, q2, q3, q4]
          exact ⟨rfl⟩
        go_roundg gk
        case measure => omega
        case rel =>
          rw [HV.out]
          refine ⟨i + 1, by omega, rfl, ?_, (HHq.out.other _ _ (by have := HGL.out; dsimp; omega)).drew, (HGq.out.setCell (.inr (Nat.le_refl _)) _ _).drew⟩
          have h2 := HWq.out.set i (.int .u32 ((wNext (wRow b.data.toList i) i).toNat : Int))
          rw [u32s_set] at h2
          have e : wRow b.data.toList (i + 1) = (wRow b.data.toList i).set i (wNext (wRow b.data.toList i) i) := by rw [wRow, if_neg H16.out]
          rw [e]
          exact h2.drew
end Go.Proofs.Ytbafbpfpnfnikaa.Given
