/- The contract of sha's go64. Conditions: a hash in memory; at least 64 bytes. Contracts of sha's add, Add and bytes. Conditions: a hash in memory; fewer than 2^47 bytes. Contracts of sha's Sum, of a hash and of bytes. Conditions: a hash in memory; fewer than 2^47 bytes. Contracts of sha.Sum, of a hash's Sum without one, of Copy, and of sha.Hmac. Conditions: fewer than 2^47 bytes. -/
import Derived.Test.YtdegeodegjmddaaZShaQ1
import Derived.StillTactics
import Derived.Test.YtdegeodegjmddaaZRowQ
import Derived.Lib.Strings
set_option linter.unusedVariables false
set_option linter.unusedSimpArgs false
namespace Go.Proofs.Ytdegeodegjmddaa.Given
open Go.RowKit Go.Proofs.YtdegeodegjmddaaW.PrintWords Go.Proofs.YtdegeodegjmddaaW.PrintLast Go.Proofs.YtdegeodegjmddaaW.PrintMore
open Go.Proofs.Ytdegeodegjmddaa.Row Go.Proofs.Ytdegeodegjmddaa.Row.At
set_option maxRecDepth 100000
set_option linter.unusedVariables false
set_option linter.unusedSimpArgs false
/-- Block g alone has turned; new blocks lie behind. -/
def Gr (g : Nat) (w w' : World) : Prop := w.grownBy w' (some g)
namespace Gr
variable {g : Nat} {a b c : World}
theorem refl (g : Nat) (a : World) : Gr g a a := ⟨rfl, rfl, rfl, Nat.le_refl _, fun _ _ _ => rfl⟩
theorem trans (h : Gr g a b) (k : Gr g b c) : Gr g a c :=
  ⟨k.os.trans h.os, k.tape.trans h.tape, k.output.trans h.output, Nat.le_trans h.size k.size, fun i hi hn => (k.block i (Nat.lt_of_lt_of_le hi h.size) hn).trans (h.block i hi hn)⟩
theorem alloc (h : Gr g a b) (o : Obj) : Gr g a (b.alloc o) := h.trans ⟨rfl, rfl, rfl, by simp, fun i hi _ => Below.heap_alloc b o i hi⟩
theorem below (h : Gr g a b) (hb : Below b.heap.size b c) : Gr g a c := h.trans ⟨hb.os, hb.tape, hb.output, hb.size, fun i hi _ => hb.block i hi⟩
theorem drew (h : Gr g a b) : Gr g a b.drew := h.trans ⟨rfl, rfl, rfl, Nat.le_refl _, fun _ _ _ => rfl⟩
theorem setCell (h : Gr g a b) {k : Nat} (hk : k = g ∨ a.heap.size ≤ k) (j : Nat) (v : Value) : Gr g a (b.setCell ⟨k, j, none⟩ v) :=
  ⟨h.os, h.tape, h.output, by have := h.size; simpa [World.setCell] using this, fun i hi hn => (Below.heap_setCell b ⟨k, j, none⟩ v i (fun e => by
    have e' : i = k := e
    rcases hk with rfl | hk
    · exact hn (by rw [e'])
    · omega)).trans (h.block i hi hn)⟩
theorem setRow (h : Gr g a b) {k : Nat} (hk : k = g ∨ a.heap.size ≤ k) (cs : Array Value) : Gr g a (b.setRow k cs) :=
  ⟨h.os, h.tape, h.output, by have := h.size; simpa using this, fun i hi hn => (Go.setRow_other b k i cs (fun e => by
    rcases hk with rfl | hk
    · exact hn (by rw [e])
    · omega)).trans (h.block i hi hn)⟩
theorem at_ (h : Gr g a b) {k : Nat} {t : TypeId} {cs : List Value} (ha : At a k t cs) (hk : k ≠ g) : At b k t cs := ⟨(h.block k ha.lt (by simpa using hk)).trans ha.heap⟩
theorem bel (h : Gr g a b) {B : Nat} {w0 : World} (hb : Below B w0 a) (hB : B ≤ a.heap.size) (hg : B ≤ g) : Below B w0 b := hb.grown h hB (fun k e => by cases e; exact hg)
end Gr
theorem cvt8 (x : UInt8) : (x.toNat : Int) % (4294967296 : Int) = ((x.toUInt32.toNat : Nat) : Int) := by
  rw [UInt8.toNat_toUInt32]
  have := x.toNat_lt
  omega
theorem sh24 (y : UInt32) : (y.toNat : Int) * (16777216 : Int) % (4294967296 : Int) = (((y <<< 24).toNat : Nat) : Int) := by
  rw [UInt32.toNat_shiftLeft, Nat.shiftLeft_eq]; simp
theorem sh16 (y : UInt32) : (y.toNat : Int) * (65536 : Int) % (4294967296 : Int) = (((y <<< 16).toNat : Nat) : Int) := by
  rw [UInt32.toNat_shiftLeft, Nat.shiftLeft_eq]; simp
theorem sh8 (y : UInt32) : (y.toNat : Int) * (256 : Int) % (4294967296 : Int) = (((y <<< 8).toNat : Nat) : Int) := by
  rw [UInt32.toNat_shiftLeft, Nat.shiftLeft_eq]; simp
theorem add32 (a b : UInt32) : ((a.toNat : Int) + (b.toNat : Int)) % (4294967296 : Int) = (((a + b).toNat : Nat) : Int) := by
  rw [← IntKind.wrap_u32, u32add]
theorem shr3 (y : UInt32) : (y.toNat : Int) / (8 : Int) = (((y >>> 3).toNat : Nat) : Int) := by
  rw [UInt32.toNat_shiftRight, Nat.shiftRight_eq_div_pow]; simp
theorem shr10 (y : UInt32) : (y.toNat : Int) / (1024 : Int) = (((y >>> 10).toNat : Nat) : Int) := by
  rw [UInt32.toNat_shiftRight, Nat.shiftRight_eq_div_pow]; simp
def s0 (x : UInt32) : UInt32 := rotr x 7 ^^^ rotr x 18 ^^^ (x >>> 3)
def s1 (y : UInt32) : UInt32 := rotr y 17 ^^^ rotr y 19 ^^^ (y >>> 10)
theorem turned_s0 (x : UInt32) (w : World) : Calls Try.prog 100 #[.int .u32 x.toNat, .int .i64 7, .int .i64 18, .int .u32 (x >>> 3).toNat] w fun e w' => e = .returned (.int .u32 (s0 x).toNat) ∧ w' = w := turned_7 x (x >>> 3) w
theorem turned_s1 (x : UInt32) (w : World) : Calls Try.prog 100 #[.int .u32 x.toNat, .int .i64 17, .int .i64 19, .int .u32 (x >>> 10).toNat] w fun e w' => e = .returned (.int .u32 (s1 x).toNat) ∧ w' = w := turned_17 x (x >>> 10) w
def S6 (x : UInt32) : UInt32 := rotr x 6 ^^^ rotr x 11 ^^^ rotr x 25
def S2 (x : UInt32) : UInt32 := rotr x 2 ^^^ rotr x 13 ^^^ rotr x 22
theorem turned_S6 (x : UInt32) (w : World) : Calls Try.prog 100 #[.int .u32 x.toNat, .int .i64 6, .int .i64 11, .int .u32 (rotr x 25).toNat] w fun e w' => e = .returned (.int .u32 (S6 x).toNat) ∧ w' = w := turned_6 x (rotr x 25) w
theorem turned_S2 (x : UInt32) (w : World) : Calls Try.prog 100 #[.int .u32 x.toNat, .int .i64 2, .int .i64 13, .int .u32 (rotr x 22).toNat] w fun e w' => e = .returned (.int .u32 (S2 x).toNat) ∧ w' = w := turned_2 x (rotr x 22) w
theorem sum2 (a b : UInt32) : ((a.toNat : Int) + (b.toNat : Int)) % (4294967296 : Int) = (((a + b).toNat : Nat) : Int) := add32 a b
theorem sum4 (a b c d : UInt32) : ((a.toNat : Int) + (b.toNat : Int) + (c.toNat : Int) + (d.toNat : Int)) % (4294967296 : Int) = (((a + b + c + d).toNat : Nat) : Int) := by
  simp only [UInt32.toNat_add]
  omega
theorem sum5 (a b c d e : UInt32) : ((a.toNat : Int) + (b.toNat : Int) + (c.toNat : Int) + (d.toNat : Int) + (e.toNat : Int)) % (4294967296 : Int) = (((a + b + c + d + e).toNat : Nat) : Int) := by
  simp only [UInt32.toNat_add]
  omega
theorem u32not (x : UInt32) : bits .xor .u32 (if IntKind.u32.signed = true then -1 else IntKind.u32.max) (x.toNat : Int) = (((~~~x).toNat : Nat) : Int) := by
  have e : (if IntKind.u32.signed = true then (-1 : Int) else IntKind.u32.max) = (((0xffffffff : UInt32).toNat : Nat) : Int) := by decide +kernel
  rw [e, u32xor]
  congr 2
def rndX (k w : UInt32) (s : List UInt32) : UInt32 := gw s 7 + S6 (gw s 4) + ((gw s 4 &&& gw s 5) ^^^ (~~~(gw s 4) &&& gw s 6)) + k + w
def rndY (s : List UInt32) : UInt32 := S2 (gw s 0) + ((gw s 0 &&& gw s 1) ^^^ (gw s 0 &&& gw s 2) ^^^ (gw s 1 &&& gw s 2))
def rnd (k w : UInt32) (s : List UInt32) : List UInt32 := [rndX k w s + rndY s, gw s 0, gw s 1, gw s 2, gw s 3 + rndX k w s, gw s 4, gw s 5, gw s 6]
theorem valX (k w : UInt32) (q : List UInt32) : (((gw q 7).toNat : Int) + ((S6 (gw q 4)).toNat : Int) + bits .xor .u32 (bits .and .u32 ((gw q 4).toNat : Int) ((gw q 5).toNat : Int)) (bits .and .u32 (bits .xor .u32 (if IntKind.u32.signed = true then -1 else IntKind.u32.max) ((gw q 4).toNat : Int)) ((gw q 6).toNat : Int)) + (k.toNat : Int)) % (4294967296 : Int) + (w.toNat : Int) = ((gw q 7 + S6 (gw q 4) + ((gw q 4 &&& gw q 5) ^^^ (~~~(gw q 4) &&& gw q 6)) + k).toNat : Int) + (w.toNat : Int) := by
  rw [u32not, u32and, u32and, u32xor, sum4]
theorem valY (q : List UInt32) : (((S2 (gw q 0)).toNat : Int) + bits .xor .u32 (bits .xor .u32 (bits .and .u32 ((gw q 0).toNat : Int) ((gw q 1).toNat : Int)) (bits .and .u32 ((gw q 0).toNat : Int) ((gw q 2).toNat : Int))) (bits .and .u32 ((gw q 1).toNat : Int) ((gw q 2).toNat : Int))) % (4294967296 : Int) = ((rndY q).toNat : Int) := by
  rw [u32and, u32and, u32and, u32xor, u32xor, sum2, rndY]
def wordOf (b : List UInt8) (i : Nat) : UInt32 := (gb b (4 * i)).toUInt32 <<< 24 ||| (gb b (4 * i + 1)).toUInt32 <<< 16 ||| (gb b (4 * i + 2)).toUInt32 <<< 8 ||| (gb b (4 * i + 3)).toUInt32
def wNext (r : List UInt32) (i : Nat) : UInt32 := gw r (i - 16) + gw r (i - 7) + s0 (gw r (i - 15)) + s1 (gw r (i - 2))
def wRow (b : List UInt8) : Nat → List UInt32
  | 0 => List.replicate 64 0
  | i + 1 => (wRow b i).set i (if i < 16 then wordOf b i else wNext (wRow b i) i)
theorem wRow_length (b : List UInt8) : ∀ i, (wRow b i).length = 64
  | 0 => by simp [wRow]
  | i + 1 => by simp [wRow, wRow_length b i]
def rnds (r : List UInt32) (s : List UInt32) : Nat → List UInt32
  | 0 => s
  | i + 1 => rnd (gw KK i) (gw r i) (rnds r s i)
theorem rnds_length (r s : List UInt32) (h : s.length = 8) : ∀ i, (rnds r s i).length = 8
  | 0 => h
  | i + 1 => by simp [rnds, rnd]
/-- the state behind 64 bytes -/
def go64S (s : List UInt32) (b : List UInt8) : List UInt32 := List.zipWith (· + ·) s (rnds (wRow b 64) s 64)
theorem go64S_length (s : List UInt32) (b : List UInt8) (h : s.length = 8) : (go64S s b).length = 8 := by rw [go64S, List.length_zipWith, h, rnds_length _ _ h]; rfl
/-- the state while the rounds' state is added -/
def addN (s q : List UInt32) (i : Nat) : List UInt32 := (List.zipWith (· + ·) s q).take i ++ s.drop i
theorem addN_length (s q : List UInt32) (i : Nat) (hs : s.length = 8) (hq : q.length = 8) : (addN s q i).length = 8 := by
  simp only [addN, List.length_append, List.length_take, List.length_zipWith, List.length_drop, hs, hq]; omega
theorem addN_get (s q : List UInt32) (i : Nat) (hs : s.length = 8) (hq : q.length = 8) (h : i < 8) : gw (addN s q i) i = gw s i := by
  have ht : ((List.zipWith (· + ·) s q).take i).length = i := by simp only [List.length_take, List.length_zipWith, hs, hq]; omega
  rw [gw, gw, List.getD_eq_getElem?_getD, List.getD_eq_getElem?_getD, addN, List.getElem?_append_right (by omega), ht, Nat.sub_self, List.getElem?_drop]
  rfl
theorem addN_set (s q : List UInt32) (i : Nat) (hs : s.length = 8) (hq : q.length = 8) (h : i < 8) : (addN s q i).set i (gw s i + gw q i) = addN s q (i + 1) := by
  have hz : (List.zipWith (· + ·) s q).length = 8 := by rw [List.length_zipWith, hs, hq]; rfl
  have ht : ((List.zipWith (· + ·) s q).take i).length = i := by rw [List.length_take]; omega
  rw [addN, addN, List.set_append_right _ _ (by omega), ht, Nat.sub_self, ← List.take_append_getElem (by omega : i < (List.zipWith (· + ·) s q).length), List.append_assoc, ← List.getElem_cons_drop (by omega : i < s.length), List.set_cons_zero]
  congr 2
  simp [gw, List.getD_eq_getElem?_getD, hs, hq, h]
theorem addN_end (s q : List UInt32) (hs : s.length = 8) (hq : q.length = 8) : addN s q 8 = List.zipWith (· + ·) s q := by
  rw [addN, List.take_of_length_le (by rw [List.length_zipWith, hs, hq]; exact Nat.le_refl _), List.drop_of_length_le (by omega), List.append_nil]
theorem infoW64 : (Try.prog.info? 111).map (·.size) = some 64 := by kernel_rfl
theorem infoS8 : (Try.prog.info? 110).map (·.size) = some 8 := by kernel_rfl
attribute [-simp] Try.isAgg113 Try.sizeOf113 Try.isAgg111 Try.sizeOf111 Try.isAgg110 Try.sizeOf110
theorem index_strS (b : ByteArray) (i : Nat) (h : i < b.size) (w : World) : (Instr.index 9 (.string b) (.int .i64 (i : Int))).run Try.prog w = .ok (.int .u8 (gb b.data.toList i).toNat) w := by
  have h1 : (0 : Int) ≤ (i : Int) ∧ (i : Int) < (b.size : Int) := by omega
  simp [Instr.index, go_sem, h1, gb, List.getD_eq_getElem?_getD]
  have h2 : i < b.data.size := h
  have h3 : b.data[i]? = some b.data[i] := Array.getElem?_eq_getElem h2
  rw [getElem?_pos b i h, h3]
  rfl
set_option maxHeartbeats 2000000 in
theorem go64_any (s : List UInt32) (rest : ByteArray) (many : Nat) (b : ByteArray) (hs : s.length = 8) (hb : 64 ≤ b.size) (g : Nat) (w : World) (h : At w g 113 (hCells s rest many KK)) :
    Calls Try.prog 98 #[.pointer (some ⟨g, 0, none⟩), .string b] w fun e w' => e = .returned (.tuple #[]) ∧ At w' g 113 (hCells (go64S s b.data.toList) rest many KK) ∧ Gr g w w' := by
  have HS := Aside0.mk hs
  have HBB := Aside0.mk hb
  have HH := Aside0.mk h
  have HGL : Aside0 (g < w.heap.size) := ⟨h.lt⟩
  clear hs hb h
  have HW0 : Aside0 (At (w.alloc (.cells (u32s (wRow b.data.toList 0)).toArray 111 (0, 0))) w.heap.size 111 (u32s (wRow b.data.toList 0))) := ⟨At.newAt rfl⟩
  have HH0 : Aside0 (At (w.alloc (.cells (u32s (wRow b.data.toList 0)).toArray 111 (0, 0))) g 113 (hCells s rest many KK)) := ⟨HH.out.alloc _⟩
  have HG0 : Aside0 (Gr g w (w.alloc (.cells (u32s (wRow b.data.toList 0)).toArray 111 (0, 0)))) := ⟨(Gr.refl g w).alloc _⟩
  go_enter Try.func98, Try.ntmps98
  go_wp2
  go_loopg [13] 64 (fun gg s13 wx => ∃ i : Nat, i + gg = 64 ∧ s13 = .int .i64 i ∧ At wx w.heap.size 111 (u32s (wRow b.data.toList i)) ∧ At wx g 113 (hCells s rest many KK) ∧ Gr g w wx)
  case atStart => exact ⟨0, by omega, rfl, HW0.out, HH0.out, HG0.out⟩
  case round =>
    obtain ⟨i, hi, rfl, ha, hh, hg⟩ := hrel
    clear HW0 HH0 HG0
    have HW := Aside0.mk ha
    have HH1 := Aside0.mk hh
    have HG := Aside0.mk hg
    clear ha hh hg
    cases gk with
    | zero =>
      have hi64 : i = 64 := by omega
      subst hi64
      clear hi
      obtain ⟨R, hR⟩ : ∃ R, R = wRow b.data.toList 64 := ⟨_, rfl⟩
      rw [← hR] at HW
      have HR := Aside0.mk hR
      have HR0 := Aside0.mk hR
      have HRL : Aside0 (R.length = 64) := ⟨by rw [hR]; exact wRow_length _ _⟩
      clear hR
      have HCE : Aside0 (∀ j v, (u32s s)[j]? = some v → wr.cell? ⟨g, 0 + j, none⟩ = some v) := ⟨fun j v hj => by
        have hjl : j < 8 := by have := (List.getElem?_eq_some_iff.1 hj).1; rw [u32s_length, HS.out] at this; exact this
        rw [Nat.zero_add, HH1.out.cell j _ (hCells_state s rest many KK j HS.out hjl)]
        rw [u32s_get _ _ (by rw [HS.out]; exact hjl)] at hj
        exact hj⟩
      have z110 := Try.sizeOf110
      have HZ : Aside0 (At (wr.alloc (.cells (u32s ([0, 0, 0, 0, 0, 0, 0, 0])).toArray 110 (0, 0))) wr.heap.size 110 (u32s ([0, 0, 0, 0, 0, 0, 0, 0]))) := ⟨At.newAt rfl⟩
      go_wp2_with (first
        | ((with_reducible refine gate_dst (N := 82) rfl ?_); refine wpList_load_mid rfl _ _ rfl g 0 rfl (u32s s) _ HCE.out Try.underlying110 rfl (by rw [u32s_length, HS.out]; exact infoS8) ?_)
        | ((with_reducible refine gate_store (t := 110) (p := 8) rfl ?_); refine HZ.out.store _ _ _ (u32s s) rfl rfl rfl rfl (by rw [u32s_length, u32s_length, HS.out]; rfl) (by rw [u32s_length, HS.out]; exact infoS8) (u32s_one _) ?_))
      obtain ⟨w1, hw1⟩ : ∃ w1, w1 = (wr.alloc (.cells (u32s ([0, 0, 0, 0, 0, 0, 0, 0])).toArray 110 (0, 0))).setRow wr.heap.size (u32s s).toArray := ⟨_, rfl⟩
      have HWS : Aside0 (w.heap.size < wr.heap.size) := ⟨HW.out.lt⟩
      have HW2 : Aside0 (At w1 w.heap.size 111 (u32s R)) := ⟨by rw [hw1]; exact (HW.out.alloc _).setRow_other _ _ (by have := HWS.out; omega)⟩
      have HH2 : Aside0 (At w1 g 113 (hCells s rest many KK)) := ⟨by rw [hw1]; exact (HH1.out.alloc _).setRow_other _ _ (by have := HH1.out.lt; omega)⟩
      have HS2 : Aside0 (At w1 wr.heap.size 110 (u32s s)) := ⟨by rw [hw1]; exact HZ.out.setRow _⟩
      have HG2 : Aside0 (Gr g w w1) := ⟨by rw [hw1]; exact (HG.out.alloc _).setRow (.inr (by have := HWS.out; omega)) _⟩
      obtain ⟨sb, hsb⟩ : ∃ sb, sb = wr.heap.size := ⟨_, rfl⟩
      rw [← hsb] at HS2 HWS
      have HSG : Aside0 (g < sb) := ⟨by rw [hsb]; exact HH1.out.lt⟩
      have hws1 : w1.heap.size = sb + 1 := by rw [hw1, hsb]; simp
      rw [← hw1, ← hsb]
      clear hw1 hsb HZ HCE HW HH1 HG HR hws1
      go_loopg [83] 64 (fun gg s83 wx => ∃ i : Nat, i + gg = 64 ∧ s83 = .int .i64 i ∧ At wx w.heap.size 111 (u32s R) ∧ At wx g 113 (hCells s rest many KK) ∧ At wx sb 110 (u32s (rnds R s i)) ∧ Gr g w wx)
      case atStart => exact ⟨0, by omega, rfl, HW2.out, HH2.out, HS2.out, HG2.out⟩
      case round =>
        obtain ⟨i, hi, rfl, ha, hh, hss, hg⟩ := hrel
        clear HW2 HH2 HG2 HS2
        have HW := Aside0.mk ha
        have HH1 := Aside0.mk hh
        have HST := Aside0.mk hss
        have HG := Aside0.mk hg
        clear ha hh hg hss
        cases gk with
        | zero =>
          have hi64 : i = 64 := by omega
          subst hi64
          have HRN := Aside0.mk (rnds_length R s HS.out 64)
          obtain ⟨q, hq⟩ : ∃ q, q = rnds R s 64 := ⟨_, rfl⟩
          rw [← hq] at HST HRN
          have HQ := Aside0.mk hq
          clear hq hi z110
          go_wp2
          go_loopg [164] 8 (fun gg s164 wx => ∃ i : Nat, i + gg = 8 ∧ s164 = .int .i64 i ∧ At wx g 113 (hCells (addN s q i) rest many KK) ∧ At wx sb 110 (u32s q) ∧ Gr g w wx)
          case atStart => exact ⟨0, by omega, rfl, HH1.out, HST.out, HG.out⟩
          case round =>
            obtain ⟨i, hi, rfl, hh, hss, hg⟩ := hrel
            clear HW HH1 HST HG
            have HH1 := Aside0.mk hh
            have HST := Aside0.mk hss
            have HG := Aside0.mk hg
            clear hh hss hg
            cases gk with
            | zero =>
              have hi8 : i = 8 := by omega
              subst hi8
              go_wp2
              go_end0
              refine ⟨rfl, ?_, HG.out⟩
              have e : addN s q 8 = go64S s b.data.toList := by
                rw [addN_end s q HS.out HRN.out, go64S, HQ.out, HR0.out]
              rw [← e]
              exact HH1.out
            | succ gk =>
              have hi8 : (i : Int) < 8 := by omega
              have hin : i < 8 := by omega
              have c1 := HH1.out.cell i _ (hCells_state (addN s q i) rest many KK i (addN_length s q i HS.out HRN.out) hin)
              rw [addN_get s q i HS.out HRN.out hin] at c1
              have f1 := HH1.out.frozen i
              have c2 := HST.out.cell i _ (u32s_get q i (by rw [HRN.out]; exact hin))
              have z110 := Try.sizeOf110
              have HIN := Aside0.mk hin
              clear hin
              go_wp2
              refine wp_region_still_tail 13 (by kernel_rfl) (by kernel_rfl) ?_
              simp only [List.take_succ_cons, List.take_zero, List.drop_succ_cons, List.drop_zero]
              iterate 13 still_step
              refine wpStill_nil ?_
              change wpList _ _ _ _ _ wr.drew
              have c1' : wr.drew.cell? { block := g, off := i } = some (Value.int IntKind.u32 ↑(gw s i).toNat) := c1
              have f1' : wr.drew.frozen? { block := g, off := i } = false := f1
              clear c1 f1 c2
              go_wp2
              rw [sum2]
              go_roundg gk
              case measure => omega
              case rel =>
                refine ⟨i + 1, by omega, rfl, ?_, (HST.out.other _ _ (by have := HSG.out; dsimp; omega)).drew, (HG.out.setCell (.inl rfl) _ _).drew⟩
                have h2 := HH1.out.set i (.int .u32 ((gw s i + gw q i).toNat : Int))
                rw [hCells_set_state _ _ _ _ _ _ (addN_length s q i HS.out HRN.out) HIN.out, addN_set s q i HS.out HRN.out HIN.out] at h2
                exact h2.drew
        | succ gk =>
          have hi64 : (i : Int) < 64 := by omega
          have HRN := Aside0.mk (rnds_length R s HS.out i)
          obtain ⟨q, hq⟩ : ∃ q, q = rnds R s i := ⟨_, rfl⟩
          rw [← hq] at HST HRN
          have HQ := Aside0.mk hq
          clear hq
          have k0 := HST.out.cell 0 _ (u32s_get q 0 (by rw [HRN.out]; decide))
          have k1 := HST.out.cell 1 _ (u32s_get q 1 (by rw [HRN.out]; decide))
          have k2 := HST.out.cell 2 _ (u32s_get q 2 (by rw [HRN.out]; decide))
          have k3 := HST.out.cell 3 _ (u32s_get q 3 (by rw [HRN.out]; decide))
          have k4 := HST.out.cell 4 _ (u32s_get q 4 (by rw [HRN.out]; decide))
          have k5 := HST.out.cell 5 _ (u32s_get q 5 (by rw [HRN.out]; decide))
          have k6 := HST.out.cell 6 _ (u32s_get q 6 (by rw [HRN.out]; decide))
          have k7 := HST.out.cell 7 _ (u32s_get q 7 (by rw [HRN.out]; decide))
          have k8 := HH1.out.cell (10 + i) _ (hCells_cube s rest many KK i HS.out (by rw [KK_length]; omega))
          have k9 := HW.out.cell i _ (u32s_get R i (by rw [HRL.out]; omega))
          have z111 := Try.sizeOf111
          go_wp2
          go_quiet (first
            | (go_at_call 101; exact Calls.quiet_of_same (down_25 _ _))
            | (go_at_call 100; exact Calls.quiet_of_same (turned_S6 _ _)))
          rw [valX, sum2]
          obtain ⟨X, hX⟩ : ∃ X, X = rndX (gw KK i) (gw R i) q := ⟨_, rfl⟩
          have hX2 : gw q 7 + S6 (gw q 4) + ((gw q 4 &&& gw q 5) ^^^ (~~~(gw q 4) &&& gw q 6)) + gw KK i + gw R i = X := by rw [hX, rndX]
          rw [hX2]
          have HX := Aside0.mk hX
          clear hX hX2 k0 k1 k2 k3 k4 k5 k6 k7 k8 k9
          go_wp2
          obtain ⟨wq, hwq⟩ : ∃ wq, wq = wr.drewN nq := ⟨_, rfl⟩
          have HWq : Aside0 (At wq w.heap.size 111 (u32s R)) := ⟨by rw [hwq]; exact ⟨HW.out.heap⟩⟩
          have HHq : Aside0 (At wq g 113 (hCells s rest many KK)) := ⟨by rw [hwq]; exact ⟨HH1.out.heap⟩⟩
          have HSq : Aside0 (At wq sb 110 (u32s q)) := ⟨by rw [hwq]; exact ⟨HST.out.heap⟩⟩
          have HGq : Aside0 (Gr g w wq) := ⟨by rw [hwq]; exact HG.out.trans ⟨rfl, rfl, rfl, Nat.le_refl _, fun _ _ _ => rfl⟩⟩
          rw [← hwq]
          clear hwq HW HH1 HG HST
          have k0 := HSq.out.cell 0 _ (u32s_get q 0 (by rw [HRN.out]; decide))
          have k1 := HSq.out.cell 1 _ (u32s_get q 1 (by rw [HRN.out]; decide))
          have k2 := HSq.out.cell 2 _ (u32s_get q 2 (by rw [HRN.out]; decide))
          go_quiet (first
            | (go_at_call 101; exact Calls.quiet_of_same (down_22 _ _))
            | (go_at_call 100; exact Calls.quiet_of_same (turned_S2 _ _)))
          rw [valY]
          obtain ⟨Y, hY⟩ : ∃ Y, Y = rndY q := ⟨_, rfl⟩
          rw [← hY]
          have HY := Aside0.mk hY
          clear hY k0 k1 k2
          obtain ⟨wz, hwz⟩ : ∃ wz, wz = wq.drewN nq := ⟨_, rfl⟩
          have HWz : Aside0 (At wz w.heap.size 111 (u32s R)) := ⟨by rw [hwz]; exact ⟨HWq.out.heap⟩⟩
          have HHz : Aside0 (At wz g 113 (hCells s rest many KK)) := ⟨by rw [hwz]; exact ⟨HHq.out.heap⟩⟩
          have HSz : Aside0 (At wz sb 110 (u32s q)) := ⟨by rw [hwz]; exact ⟨HSq.out.heap⟩⟩
          have HGz : Aside0 (Gr g w wz) := ⟨by rw [hwz]; exact HGq.out.trans ⟨rfl, rfl, rfl, Nat.le_refl _, fun _ _ _ => rfl⟩⟩
          rw [← hwz]
          clear hwz HWq HHq HSq HGq
          have k0 := HSz.out.cell 0 _ (u32s_get q 0 (by rw [HRN.out]; decide))
          have k1 := HSz.out.cell 1 _ (u32s_get q 1 (by rw [HRN.out]; decide))
          have k2 := HSz.out.cell 2 _ (u32s_get q 2 (by rw [HRN.out]; decide))
          have k3 := HSz.out.cell 3 _ (u32s_get q 3 (by rw [HRN.out]; decide))
          have k4 := HSz.out.cell 4 _ (u32s_get q 4 (by rw [HRN.out]; decide))
          have k5 := HSz.out.cell 5 _ (u32s_get q 5 (by rw [HRN.out]; decide))
          have k6 := HSz.out.cell 6 _ (u32s_get q 6 (by rw [HRN.out]; decide))
          obtain ⟨Z, hZ⟩ : ∃ Z, Z = X + Y := ⟨_, rfl⟩
          obtain ⟨V, hV⟩ : ∃ V, V = gw q 3 + X := ⟨_, rfl⟩
          have m1 : ((X.toNat : Int) + (Y.toNat : Int)) % (4294967296 : Int) = ((Z.toNat : Nat) : Int) := by rw [sum2, hZ]
          have m2 : (((gw q 3).toNat : Int) + (X.toNat : Int)) % (4294967296 : Int) = ((V.toNat : Nat) : Int) := by rw [sum2, hV]
          have HZV := Aside0.mk (And.intro hZ hV)
          clear hZ hV
          go_wp2_with ((with_reducible refine gate_store (t := 110) (p := 8) rfl ?_); refine HSz.out.store _ _ _ (u32s [Z, gw q 0, gw q 1, gw q 2, V, gw q 4, gw q 5, gw q 6]) rfl rfl rfl rfl (by rw [u32s_length, HRN.out]; rfl) (by rw [u32s_length]; exact infoS8) (u32s_one _) ?_)
          go_roundg gk
          case measure => omega
          case rel =>
            refine ⟨i + 1, by omega, rfl, HWz.out.setRow_other _ _ (by have := HWS.out; omega), HHz.out.setRow_other _ _ (by have := HSG.out; omega), ?_, HGz.out.setRow (.inr (by have := HWS.out; omega)) _⟩
            have e : rnds R s (i + 1) = [Z, gw q 0, gw q 1, gw q 2, V, gw q 4, gw q 5, gw q 6] := by
              rw [rnds, ← HQ.out, rnd, ← HX.out, ← HY.out, ← HZV.out.1, ← HZV.out.2]
            rw [e]
            exact HSz.out.setRow _
    | succ gk =>
      have hi64 : (i : Int) < 64 := by omega
      by_cases h16 : i < 16
      · have h16i : (i : Int) < 16 := by omega
        obtain ⟨a0, ha0⟩ : ∃ a : Nat, a = 4 * i := ⟨_, rfl⟩
        obtain ⟨a1, ha1⟩ : ∃ a : Nat, a = 4 * i + 1 := ⟨_, rfl⟩
        obtain ⟨a2, ha2⟩ : ∃ a : Nat, a = 4 * i + 2 := ⟨_, rfl⟩
        obtain ⟨a3, ha3⟩ : ∃ a : Nat, a = 4 * i + 3 := ⟨_, rfl⟩
        have e0 : IntKind.i64.wrap (4 * (i : Int)) = (a0 : Int) := by rw [show 4 * (i : Int) = (a0 : Int) by omega]; exact wrapi_of_bounds (by omega) (by omega)
        have e1 : IntKind.i64.wrap ((a0 : Int) + 1) = (a1 : Int) := by rw [show (a0 : Int) + 1 = (a1 : Int) by omega]; exact wrapi_of_bounds (by omega) (by omega)
        have e2 : IntKind.i64.wrap ((a0 : Int) + 2) = (a2 : Int) := by rw [show (a0 : Int) + 2 = (a2 : Int) by omega]; exact wrapi_of_bounds (by omega) (by omega)
        have e3 : IntKind.i64.wrap ((a0 : Int) + 3) = (a3 : Int) := by rw [show (a0 : Int) + 3 = (a3 : Int) by omega]; exact wrapi_of_bounds (by omega) (by omega)
        have x0 := index_strS b a0 (by have := HBB.out; omega)
        have x1 := index_strS b a1 (by have := HBB.out; omega)
        have x2 := index_strS b a2 (by have := HBB.out; omega)
        have x3 := index_strS b a3 (by have := HBB.out; omega)
        have HA := Aside0.mk (And.intro ha0 (And.intro ha1 (And.intro ha2 ha3)))
        have H16 := Aside0.mk h16
        have c1 := HW.out.cell i _ (u32s_get _ i (by rw [wRow_length]; omega))
        have f1 := HW.out.frozen i
        clear ha0 ha1 ha2 ha3 h16
        go_wp2
        refine wp_region_still_tail 31 (by kernel_rfl) (by kernel_rfl) ?_
        simp only [List.take_succ_cons, List.take_zero, List.drop_succ_cons, List.drop_zero]
        iterate 31 still_step
        refine wpStill_nil ?_
        change wpList _ _ _ _ _ wr.drew
        have c1' : wr.drew.cell? { block := w.heap.size, off := i } = some (Value.int IntKind.u32 ↑(gw (wRow b.data.toList i) i).toNat) := c1
        have f1' : wr.drew.frozen? { block := w.heap.size, off := i } = false := f1
        clear e0 e1 e2 e3 x0 x1 x2 x3 c1 f1
        go_wp2
        have HV : Aside0 (bits .or .u32 (bits .or .u32 (bits .or .u32 (((gb b.data.toList a0).toNat : Int) % (4294967296 : Int) * (16777216 : Int) % (4294967296 : Int)) (((gb b.data.toList a1).toNat : Int) % (4294967296 : Int) * (65536 : Int) % (4294967296 : Int))) (((gb b.data.toList a2).toNat : Int) % (4294967296 : Int) * (256 : Int) % (4294967296 : Int))) (((gb b.data.toList a3).toNat : Int) % (4294967296 : Int)) = ((wordOf b.data.toList i).toNat : Int)) := by
          obtain ⟨r0, r1, r2, r3⟩ := HA.out
          rw [cvt8, cvt8, cvt8, cvt8, sh24, sh16, sh8, u32or, u32or, u32or, wordOf, r0, r1, r2, r3]
          exact ⟨rfl⟩
        go_roundg gk
        case measure => omega
        case rel =>
          rw [HV.out]
          refine ⟨i + 1, by omega, rfl, ?_, (HH1.out.other _ _ (by have := HGL.out; dsimp; omega)).drew, (HG.out.setCell (.inr (Nat.le_refl _)) _ _).drew⟩
          have h2 := HW.out.set i (.int .u32 ((wordOf b.data.toList i).toNat : Int))
          rw [u32s_set] at h2
          have e : wRow b.data.toList (i + 1) = (wRow b.data.toList i).set i (wordOf b.data.toList i) := by rw [wRow, if_pos H16.out]
          rw [e]
          exact h2.drew
      · have h16i : ¬ ((i : Int) < 16) := by omega
        obtain ⟨a15, h15⟩ : ∃ a : Nat, a = i - 15 := ⟨_, rfl⟩
        obtain ⟨a2, h2⟩ : ∃ a : Nat, a = i - 2 := ⟨_, rfl⟩
        obtain ⟨a16, h16b⟩ : ∃ a : Nat, a = i - 16 := ⟨_, rfl⟩
        obtain ⟨a7, h7⟩ : ∃ a : Nat, a = i - 7 := ⟨_, rfl⟩
        have e1 : IntKind.i64.wrap ((i : Int) - 15) = (a15 : Int) := by rw [show (i : Int) - 15 = (a15 : Int) by omega]; exact wrapi_of_bounds (by omega) (by omega)
        have e2 : IntKind.i64.wrap ((i : Int) - 2) = (a2 : Int) := by rw [show (i : Int) - 2 = (a2 : Int) by omega]; exact wrapi_of_bounds (by omega) (by omega)
        have e3 : IntKind.i64.wrap ((i : Int) - 16) = (a16 : Int) := by rw [show (i : Int) - 16 = (a16 : Int) by omega]; exact wrapi_of_bounds (by omega) (by omega)
        have e4 : IntKind.i64.wrap ((i : Int) - 7) = (a7 : Int) := by rw [show (i : Int) - 7 = (a7 : Int) by omega]; exact wrapi_of_bounds (by omega) (by omega)
        have b1 : (a15 : Int) < 64 := by omega
        have b2 : (a2 : Int) < 64 := by omega
        have b3 : (a16 : Int) < 64 := by omega
        have b4 : (a7 : Int) < 64 := by omega
        have c1 := HW.out.cell a15 _ (u32s_get _ a15 (by rw [wRow_length]; omega))
        have c2 := HW.out.cell a2 _ (u32s_get _ a2 (by rw [wRow_length]; omega))
        have c3 := HW.out.cell a16 _ (u32s_get _ a16 (by rw [wRow_length]; omega))
        have c4 := HW.out.cell a7 _ (u32s_get _ a7 (by rw [wRow_length]; omega))
        have c5 := HW.out.cell i _ (u32s_get _ i (by rw [wRow_length]; omega))
        have f1 := HW.out.frozen i
        have HA := Aside0.mk (And.intro h15 (And.intro h2 (And.intro h16b h7)))
        have H16 := Aside0.mk h16
        clear h15 h2 h16b h7 h16
        go_wp2
        go_quiet (fail)
        obtain ⟨x, hx⟩ : ∃ x, x = gw (wRow b.data.toList i) a15 := ⟨_, rfl⟩
        obtain ⟨y, hy⟩ : ∃ y, y = gw (wRow b.data.toList i) a2 := ⟨_, rfl⟩
        rw [← hx] at c1
        rw [← hy] at c2
        have HXY := Aside0.mk (And.intro hx hy)
        have r3 := shr3 x
        have r10 := shr10 y
        rw [← hx, ← hy]
        clear hx hy c1 c2 e1 e2
        go_wp2
        obtain ⟨wq, hwq⟩ : ∃ wq, wq = wr.drewN nq := ⟨_, rfl⟩
        have HWq : Aside0 (At wq w.heap.size 111 (u32s (wRow b.data.toList i))) := ⟨by rw [hwq]; exact ⟨HW.out.heap⟩⟩
        have HHq : Aside0 (At wq g 113 (hCells s rest many KK)) := ⟨by rw [hwq]; exact ⟨HH1.out.heap⟩⟩
        have HGq : Aside0 (Gr g w wq) := ⟨by rw [hwq]; exact HG.out.trans ⟨rfl, rfl, rfl, Nat.le_refl _, fun _ _ _ => rfl⟩⟩
        clear c3 c4 c5 f1
        have c3 := HWq.out.cell a16 _ (u32s_get _ a16 (by rw [wRow_length]; omega))
        have c4 := HWq.out.cell a7 _ (u32s_get _ a7 (by rw [wRow_length]; omega))
        have c5 := HWq.out.cell i _ (u32s_get _ i (by rw [wRow_length]; omega))
        have f1 := HWq.out.frozen i
        rw [← hwq]
        clear hwq HW HH1 HG
        refine wp_region_still_tail 21 (by kernel_rfl) (by kernel_rfl) ?_
        simp only [List.take_succ_cons, List.take_zero, List.drop_succ_cons, List.drop_zero]
        iterate 13 still_step
        still_call (turned_s0 x _)
        iterate 4 still_step
        still_call (turned_s1 y _)
        iterate 2 still_step
        refine wpStill_nil ?_
        change wpList _ _ _ _ _ wq.drew
        have c5' : wq.drew.cell? { block := w.heap.size, off := i } = some (Value.int IntKind.u32 ↑(gw (wRow b.data.toList i) i).toNat) := c5
        have f1' : wq.drew.frozen? { block := w.heap.size, off := i } = false := f1
        clear c3 c4 c5 f1 e3 e4
        go_wp2
        have HV : Aside0 (((((gw (wRow b.data.toList i) a16).toNat : Int) + ((gw (wRow b.data.toList i) a7).toNat : Int) + ((s0 x).toNat : Int) + ((s1 y).toNat : Int)) % (4294967296 : Int)) = ((wNext (wRow b.data.toList i) i).toNat : Int)) := by
          obtain ⟨q1, q2, q3, q4⟩ := HA.out
          rw [sum4, wNext, HXY.out.1, HXY.out.2, q1, q2, q3, q4]
          exact ⟨rfl⟩
        go_roundg gk
        case measure => omega
        case rel =>
          rw [HV.out]
          refine ⟨i + 1, by omega, rfl, ?_, (HHq.out.other _ _ (by have := HGL.out; dsimp; omega)).drew, (HGq.out.setCell (.inr (Nat.le_refl _)) _ _).drew⟩
          have h2 := HWq.out.set i (.int .u32 ((wNext (wRow b.data.toList i) i).toNat : Int))
          rw [u32s_set] at h2
          have e : wRow b.data.toList (i + 1) = (wRow b.data.toList i).set i (wNext (wRow b.data.toList i) i) := by rw [wRow, if_neg H16.out]
          rw [e]
          exact h2.drew
end Go.Proofs.Ytdegeodegjmddaa.Given

namespace Go.Proofs.Ytdegeodegjmddaa.Given
open Go.RowKit Go.Proofs.YtdegeodegjmddaaW.PrintWords Go.Proofs.YtdegeodegjmddaaW.PrintLast Go.Proofs.YtdegeodegjmddaaW.PrintMore
open Go.Proofs.Ytdegeodegjmddaa.Row Go.Proofs.Ytdegeodegjmddaa.Row.At
set_option maxRecDepth 100000
set_option linter.unusedVariables false
set_option linter.unusedSimpArgs false
/-- whole pieces of 64 bytes gone through -/
def eat : Nat → List UInt32 → ByteArray → List UInt32 × ByteArray
  | 0, s, r => (s, r)
  | n + 1, s, r => if 64 ≤ r.size then eat n (go64S s r.data.toList) (r.extract 64 r.size) else (s, r)
theorem eat_length : ∀ n s r, s.length = 8 → (eat n s r).1.length = 8
  | 0, s, r, h => h
  | n + 1, s, r, h => by
    simp only [eat]
    split
    · exact eat_length n _ _ (go64S_length _ _ h)
    · exact h
theorem add_any (s : List UInt32) (rest x : ByteArray) (many : Nat) (hs : s.length = 8) (hb : rest.size + x.size ≤ 140737488355328) (g : Nat) (w : World) (h : At w g 113 (hCells s rest many KK)) :
    Calls Try.prog 88 #[.pointer (some ⟨g, 0, none⟩), .string x] w fun e w' => e = .returned (.tuple #[]) ∧ At w' g 113 (hCells (eat ((rest ++ x).size / 64) s (rest ++ x)).1 (eat ((rest ++ x).size / 64) s (rest ++ x)).2 many KK) ∧ Gr g w w' := by
  have HS := Aside0.mk hs
  have HB := Aside0.mk hb
  have HH := Aside0.mk h
  have hle : rest.size + x.size ≤ 9223372036854775807 := by omega
  have c1 := h.cell 8 _ (hCells_rest s rest many KK hs)
  have f1 := h.frozen 8
  have hx : (rest ++ x).size = rest.size + x.size := ByteArray.size_append
  obtain ⟨r0, hr0⟩ : ∃ r0, r0 = rest ++ x := ⟨_, rfl⟩
  rw [← hr0] at hx ⊢
  have HX := Aside0.mk hx
  obtain ⟨E, hE⟩ : ∃ E, E = eat (r0.size / 64) s r0 := ⟨_, rfl⟩
  rw [← hE]
  have HE := Aside0.mk hE
  have HR0 := Aside0.mk hr0
  clear hs hb h hx hE hr0
  go_enter Try.func88, Try.ntmps88
  go_wp2
  rw [← HR0.out]
  clear hle c1 f1
  go_loopg [] (r0.size / 64) (fun gg wx => ∃ (s' : List UInt32) (r : ByteArray), gg = r.size / 64 ∧ s'.length = 8 ∧ eat gg s' r = E ∧ r.size ≤ 140737488355328 ∧ At wx g 113 (hCells s' r many KK) ∧ Gr g w wx)
  case atStart =>
    refine ⟨s, r0, rfl, HS.out, HE.out.symm, by rw [HX.out]; exact HB.out, ?_, (Gr.refl g w).setCell (.inl rfl) _ _⟩
    have h2 := HH.out.set 8 (.string r0)
    rw [hCells_set_rest s rest r0 many KK HS.out] at h2
    exact h2
  case round =>
    obtain ⟨s', r, hgg, hs, hee, hrb, ha, hg⟩ := hrel
    have HGG := Aside0.mk hgg
    have HS1 := Aside0.mk hs
    have HEE := Aside0.mk hee
    have HRB := Aside0.mk hrb
    have HA := Aside0.mk ha
    have HG := Aside0.mk hg
    have c1 := ha.cell 8 _ (hCells_rest s' r many KK hs)
    have f1 := ha.frozen 8
    clear hgg hs hee hrb ha hg HH
    cases gk with
    | zero =>
      have hlt : ¬ ((64 : Int) ≤ (r.size : Int)) := by have := HGG.out; omega
      go_wp2
      go_end0
      have he := HEE.out
      simp only [eat] at he
      rw [← he]
      exact ⟨rfl, HA.out, HG.out⟩
    | succ gk =>
      have hlt : (64 : Int) ≤ (r.size : Int) := by have := HGG.out; omega
      have H64 : Aside0 (64 ≤ r.size) := ⟨by have := HGG.out; omega⟩
      go_wp2_with (go_at_call 98; refine (go64_any s' r many r HS1.out H64.out g _ HA.out).mono ?_; rintro e w2 ⟨rfl, h2, hg2⟩; have n2 := Aside0.mk (HG.out.trans hg2); clear HA HG hg2 c1 f1; have HA := Aside0.mk h2; have HG := n2; clear n2 h2; have c1 := HA.out.cell 8 _ (hCells_rest (go64S s' r.data.toList) r many KK (go64S_length _ _ HS1.out)); have f1 := HA.out.frozen 8)
      go_roundg gk
      case measure => omega
      case rel =>
        have hsz : (r.extract 64 r.size).size = r.size - 64 := by rw [ByteArray.size_extract]; omega
        refine ⟨go64S s' r.data.toList, r.extract 64 r.size, by rw [hsz]; have := HGG.out; omega, go64S_length _ _ HS1.out, ?_, by rw [hsz]; have := HRB.out; omega, ?_, HG.out.setCell (.inl rfl) _ _⟩
        · rw [← HEE.out, eat, if_pos H64.out]
        · have h3 := HA.out.set 8 (.string (r.extract 64 r.size))
          rw [hCells_set_rest _ _ _ _ _ (go64S_length _ _ HS1.out)] at h3
          exact h3
theorem shaAdd_any (s : List UInt32) (rest x : ByteArray) (many : Nat) (hs : s.length = 8) (hb : rest.size + x.size ≤ 140737488355328) (hm : many + x.size < 18446744073709551616) (g : Nat) (w : World) (h : At w g 113 (hCells s rest many KK)) :
    Calls Try.prog 80 #[.pointer (some ⟨g, 0, none⟩), .string x] w fun e w' => e = .returned (.int .i64 0) ∧ At w' g 113 (hCells (eat ((rest ++ x).size / 64) s (rest ++ x)).1 (eat ((rest ++ x).size / 64) s (rest ++ x)).2 (many + x.size) KK) ∧ Gr g w w' := by
  have HS := Aside0.mk hs
  have HB := Aside0.mk hb
  have HH := Aside0.mk h
  have c1 := h.cell 9 _ (hCells_many s rest many KK hs)
  have f1 := h.frozen 9
  obtain ⟨m2, hm2⟩ : ∃ m2, m2 = many + x.size := ⟨_, rfl⟩
  rw [← hm2]
  have e1 : IntKind.u64.wrap (x.size : Int) = (x.size : Int) := by rw [IntKind.wrap_u64]; omega
  have e2 : IntKind.u64.wrap ((many : Int) + (x.size : Int)) = (m2 : Int) := by rw [IntKind.wrap_u64]; omega
  obtain ⟨w1, hw1⟩ : ∃ w1, w1 = w.setCell ⟨g, 9, none⟩ (.int .u64 (m2 : Int)) := ⟨_, rfl⟩
  have HH1 : Aside0 (At w1 g 113 (hCells s rest m2 KK)) := ⟨by
    have h3 := h.set 9 (.int .u64 (m2 : Int))
    rw [hCells_set_many _ _ _ _ _ hs] at h3
    rw [hw1]; exact h3⟩
  have HG1 : Aside0 (Gr g w w1) := ⟨by rw [hw1]; exact (Gr.refl g w).setCell (.inl rfl) _ _⟩
  have HW1 := Aside0.mk hw1
  clear hs hb h hm hm2 hw1
  go_enter Try.func80, Try.ntmps80
  go_wp2_with (go_at_call 88; rw [← HW1.out]; refine (add_any s rest x m2 HS.out HB.out g _ HH1.out).mono ?_; rintro e w2 ⟨rfl, h2, hg2⟩; have HA := Aside0.mk h2; have HG := Aside0.mk (HG1.out.trans hg2); clear h2 hg2)
  go_ret
  exact ⟨rfl, HA.out, HG.out⟩
theorem shaAdd_nil (x : ByteArray) (w : World) :
    Calls Try.prog 80 #[.pointer none, .string x] w fun e w' => e = .returned (.int .i64 2) ∧ w' = w := by
  go_enter Try.func80, Try.ntmps80
  go_wp2
  go_ret
  exact ⟨rfl, rfl⟩
/-- a number's bytes, the highest first -/
def bytesL (n k : Nat) : List UInt8 := (List.range k).map fun j => UInt8.ofNat (n / 2 ^ (8 * (k - 1 - j)))
theorem bytesL_length (n k : Nat) : (bytesL n k).length = k := by simp [bytesL]
theorem freshBldS (w : World) : Bld w.heap.size w.heap.size [] (w.alloc (.cells #[.pointer none, .slice none 0 0] 54)) :=
  Lib.IsBuilderF.of (Lib.fresh_isBuilder 54 5 w)
theorem bytesL_take (n k gk : Nat) (hk : gk < k) : (bytesL n k).take (k - gk) = (bytesL n k).take (k - (gk + 1)) ++ [UInt8.ofNat (n / 2 ^ (8 * gk))] := by
  have h : k - (gk + 1) < (bytesL n k).length := by rw [bytesL_length]; omega
  have e : k - gk = (k - (gk + 1)) + 1 := by omega
  rw [e, ← List.take_append_getElem h]
  congr 2
  simp only [bytesL, List.getElem_map, List.getElem_range]
  congr 3
  omega
theorem byte_ofS (n k : Nat) : (n : Int) / 2 ^ (8 * k) % 256 = ((UInt8.ofNat (n / 2 ^ (8 * k))).toNat : Int) := by
  rw [UInt8.toNat_ofNat']
  simp
theorem stringBS {B b : Nat} {l : List UInt8} {w : World} (h : Bld B b l w) (hB : B ≤ w.heap.size) :
    Calls Try.prog 34 #[.pointer (some ⟨b, 0, none⟩)] w fun e w' => e = .returned (.string ⟨l.toArray⟩) ∧ Bld B b l w' ∧ Below B w w' ∧ Lib.OthersKept 5 (some b) w w' :=
  Try.Builder_String_any_k B b l w h hB
set_option maxHeartbeats 1000000 in
theorem bytes_any (n k : Nat) (hk : k ≤ 8) (w : World) :
    Calls Try.prog 90 #[.int .u64 n, .int .i64 k] w fun e w' => e = .returned (.string ⟨(bytesL n k).toArray⟩) ∧ Below w.heap.size w w' := by
  have HK := Aside0.mk hk
  have HBl := Aside0.mk (freshBldS w)
  have HB : Aside0 (Below w.heap.size w (w.alloc (.cells #[.pointer none, .slice none 0 0] 54))) := ⟨(Below.refl _ w).alloc (Nat.le_refl _) _⟩
  have e0 : wrap64 ((k : Int) - 1) = (k : Int) - 1 := wrap64_of_bounds (by omega) (by omega)
  clear hk
  go_enter Try.func90, Try.ntmps90
  go_wp2
  try rw [e0]
  clear e0
  go_loopg [6] k (fun gg s6 wx => gg ≤ k ∧ s6 = .int .i64 ((gg : Int) - 1) ∧ Bld w.heap.size w.heap.size ((bytesL n k).take (k - gg)) wx ∧ Below w.heap.size w wx)
  case atStart => exact ⟨Nat.le_refl _, rfl, by simpa using HBl.out, HB.out⟩
  case round =>
    obtain ⟨hn, rfl, ha, hb⟩ := hrel
    clear HBl HB
    have HA := Aside0.mk ha; have HB := Aside0.mk hb
    clear ha hb
    cases gk with
    | zero =>
      have e8 : (bytesL n k).take (k - 0) = bytesL n k := List.take_of_length_le (by rw [bytesL_length]; omega)
      rw [e8] at HA
      clear e8
      go_wp2_with (go_at_call 34; (refine (stringBS HA.out HB.out.size).mono ?_); rintro e w2 ⟨rfl, h2, hb, ho⟩; have n1 := Aside0.mk (HB.out.trans hb); clear HA HB h2 hb ho; have HB := n1; clear n1)
      go_ret
      exact ⟨rfl, HB.out⟩
    | succ gk =>
      have q1 : ((gk + 1 : Nat) : Int) - 1 = (gk : Int) := by omega
      rw [q1]
      have q2 : (0 : Int) ≤ (gk : Int) := by omega
      have HBY := Aside0.mk (byte_ofS n gk)
      have hw8 : wrap64 (8 * (gk : Int)) = 8 * (gk : Int) := by have := HK.out; exact wrap64_of_bounds (by omega) (by omega)
      have HG8 : Aside0 (gk < 8) := ⟨by have := HK.out; omega⟩
      have hg8 : gk < 8 := HG8.out
      go_wp2_with (go_at_call 48; (rw [HBY.out]; refine (writeByte w.heap.size _ _ _ _ HA.out (by rw [List.length_take, bytesL_length]; have := HK.out; omega) HB.out.size).mono ?_); rintro e w2 ⟨rfl, h2, hb, ho⟩; have n1 := Aside0.mk (HB.out.trans hb); have n2 := Aside0.mk h2; clear HA HB h2 hb ho; have HA := n2; have HB := n1; clear n1 n2)
      go_roundg gk
      case measure => omega
      case rel => exact ⟨by omega, by congr 1, by rw [bytesL_take _ _ _ (by omega)]; exact HA.out, HB.out⟩
end Go.Proofs.Ytdegeodegjmddaa.Given

namespace Go.Proofs.Ytdegeodegjmddaa.Given
open Go.RowKit Go.Proofs.YtdegeodegjmddaaW.PrintWords Go.Proofs.YtdegeodegjmddaaW.PrintLast Go.Proofs.YtdegeodegjmddaaW.PrintMore
open Go.Proofs.Ytdegeodegjmddaa.Row Go.Proofs.Ytdegeodegjmddaa.Row.At
set_option maxRecDepth 100000
set_option linter.unusedVariables false
set_option linter.unusedSimpArgs false
attribute [-simp] Try.isAgg113 Try.sizeOf113 Try.isAgg111 Try.isAgg110
/-- what fills the last piece up -/
def noughts (n : Nat) : Nat := (119 - n) % 64
def tailW (n many : Nat) : ByteArray := (⟨#[128]⟩ : ByteArray) ++ ⟨(Lib.repeatL [0] (noughts n)).toArray⟩ ++ ⟨(bytesL (8 * many) 8).toArray⟩
def lastS (s : List UInt32) (rest : ByteArray) (many : Nat) : List UInt32 := (eat ((rest ++ tailW rest.size many).size / 64) s (rest ++ tailW rest.size many)).1
def outW (s : List UInt32) (i : Nat) : ByteArray := ⟨((List.range i).flatMap fun j => bytesL (gw s j).toNat 4).toArray⟩
/-- the digest of what was added -/
def sumW (s : List UInt32) (rest : ByteArray) (many : Nat) : ByteArray := outW (lastS s rest many) 8
theorem outW_succ (s : List UInt32) (i : Nat) : outW s i ++ ⟨(bytesL (gw s i).toNat 4).toArray⟩ = outW s (i + 1) := by
  unfold outW
  rw [List.range_succ, List.flatMap_append]
  apply ByteArray.ext
  simp
theorem hCells_one (s : List UInt32) (r : ByteArray) (m : Nat) (c : List UInt32) : ∀ v ∈ hCells s r m c, v.oneCell' = true := by
  intro v hv
  simp only [hCells, List.mem_append, List.mem_cons] at hv
  rcases hv with h | rfl | rfl | h
  · exact u32s_one s v h
  · rfl
  · rfl
  · exact u32s_one c v h
theorem outW_size (s : List UInt32) (i : Nat) : (outW s i).size = 4 * i := by
  show ((List.range i).flatMap fun j => bytesL (gw s j).toNat 4).toArray.size = 4 * i
  rw [List.size_toArray]
  induction i with
  | zero => rfl
  | succ i ih => rw [List.range_succ, List.flatMap_append, List.length_append, ih]; simp [bytesL_length]; omega
theorem index8 (l : List UInt32) (i : Nat) (h : i < 8) (hl : l.length = 8) (w : World) : (Instr.index 110 (.agg (u32s l).toArray) (.int .i64 (i : Int))).run Try.prog w = .ok (.int .u32 ((gw l i).toNat : Int)) w := by
  have h1 : (0 : Int) ≤ (i : Int) ∧ (i : Int) < 8 := by omega
  have h2 := u32s_get l i (by omega)
  simp [Instr.index, go_sem, h1, part, h2]
  omega
theorem repeatL_length (z : Nat) : (Lib.repeatL [0] z).length = z := by
  induction z with
  | zero => rfl
  | succ z ih => simp [Lib.repeatL, ih]; try omega
set_option maxHeartbeats 2000000 in
theorem shaSum_any (s : List UInt32) (rest : ByteArray) (many : Nat) (hs : s.length = 8) (hr : rest.size < 64) (hm : many < 1152921504606846976) (g : Nat) (w : World) (h : At w g 113 (hCells s rest many KK)) :
    Calls Try.prog 81 #[.pointer (some ⟨g, 0, none⟩)] w fun e w' => e = .returned (.string (sumW s rest many)) ∧ Below w.heap.size w w' := by
  have HS := Aside0.mk hs
  have HR := Aside0.mk hr
  have HH := Aside0.mk h
  have z1 := (zero_of_info infoH).1
  obtain ⟨q, hq⟩ : ∃ q : Nat, q = 119 - rest.size := ⟨_, rfl⟩
  obtain ⟨z, hz⟩ : ∃ z : Nat, z = noughts rest.size := ⟨_, rfl⟩
  have e1 : wrap64 (119 - (rest.size : Int)) = (q : Int) := by rw [show 119 - (rest.size : Int) = (q : Int) by omega]; exact wrap64_of_bounds (by omega) (by omega)
  have e2 : (q : Int).tmod 64 = (z : Int) := by rw [Int.tmod_eq_emod_of_nonneg (by omega), hz, noughts, ← hq]; rfl
  have e2b : (q : Int) % 64 = (z : Int) := by rw [hz, noughts, ← hq]; rfl
  obtain ⟨m8, hm8⟩ : ∃ m8 : Nat, m8 = 8 * many := ⟨_, rfl⟩
  have e3 : IntKind.u64.wrap (8 * (many : Int)) = (m8 : Int) := by rw [IntKind.wrap_u64]; omega
  have HZ := Aside0.mk (And.intro hz (And.intro hq hm8))
  have HZ0 : Aside0 (At (w.alloc (.cells (hCells (List.replicate 8 0) ⟨#[]⟩ 0 (List.replicate 64 0)).toArray 113 (0, 0))) w.heap.size 113 (hCells (List.replicate 8 0) ⟨#[]⟩ 0 (List.replicate 64 0))) := ⟨At.newAt rfl⟩
  obtain ⟨zc, hzc⟩ : ∃ zc, zc = hCells (List.replicate 8 0) ⟨#[]⟩ 0 (List.replicate 64 0) := ⟨_, rfl⟩
  rw [← hzc] at z1 HZ0
  have HZL : Aside0 (zc.length = 74) := ⟨by rw [hzc]; exact hCells_length _ _ _ _ (by simp) (by simp)⟩
  have HHL : Aside0 ((hCells s rest many KK).length = 74) := ⟨hCells_length _ _ _ _ hs KK_length⟩
  have c1 := h.cell 9 _ (hCells_many s rest many KK hs)
  clear hs hr hm h hq hz hm8 hzc
  go_enter Try.func81, Try.ntmps81
  go_wp2_with (first
    | ((with_reducible refine gate_dst (N := 13) rfl ?_); refine HH.out.load _ _ rfl rfl rfl _ Try.underlying113 rfl (by rw [HHL.out]; exact (zero_of_info infoH).2) ?_)
    | ((with_reducible refine gate_store (t := 113) (p := 3) rfl ?_); refine HZ0.out.store _ _ _ (hCells s rest many KK) rfl rfl rfl rfl (by rw [HHL.out, HZL.out]) (by rw [HHL.out]; exact (zero_of_info infoH).2) (hCells_one s rest many KK) ?_; have n1 := HZ0.out.setRow (hCells s rest many KK); have n2 := (HH.out.alloc (.cells zc.toArray 113 (0, 0))).setRow_other w.heap.size (hCells s rest many KK) (by have := HH.out.lt; omega); have n3 := At.row_below ((Below.refl w.heap.size w).alloc (Nat.le_refl _) (.cells zc.toArray 113 (0, 0))) (Nat.le_refl _) (hCells s rest many KK).toArray; obtain ⟨w1, hw1⟩ : ∃ w1, w1 = (w.alloc (.cells zc.toArray 113 (0, 0))).setRow w.heap.size (hCells s rest many KK).toArray := ⟨_, rfl⟩; have n4 : w1.heap.size = w.heap.size + 1 := (by rw [hw1]; simp); rw [← hw1] at n1 n2 n3 ⊢; have HC := Aside0.mk n1; have HH1 := Aside0.mk n2; have HB1 := Aside0.mk n3; have HS1 := Aside0.mk n4; have c8 := HC.out.cell 8 _ (hCells_rest s rest many KK HS.out); have c9 := HH1.out.cell 9 _ (hCells_many s rest many KK HS.out); clear n1 n2 n3 n4 hw1 HH HZ0 z1 c1))
  obtain ⟨rs, hrs⟩ : ∃ rs : ByteArray, rs = ⟨(Lib.repeatL [0] z).toArray⟩ := ⟨_, rfl⟩
  obtain ⟨bz, hbz⟩ : ∃ bz : ByteArray, bz = ⟨(bytesL m8 8).toArray⟩ := ⟨_, rfl⟩
  have hz64 : z < 64 := by rw [HZ.out.1, noughts]; omega
  have hrl : rs.size = z := by rw [hrs]; show (Lib.repeatL [0] z).toArray.size = z; rw [List.size_toArray, repeatL_length]
  have hbl : bz.size = 8 := by rw [hbz]; show (bytesL m8 8).toArray.size = 8; rw [List.size_toArray, bytesL_length]
  have REP : Aside0 (∀ w, Calls Try.prog 89 #[.string ⟨#[0]⟩, .int .i64 z] w fun e w' => e = .returned (.string rs) ∧ Below w.heap.size w w') := ⟨fun w => by
    rw [hrs]
    exact Try.strings_Repeat ⟨#[0]⟩ z w (by omega) (by have : (⟨#[0]⟩ : ByteArray).size = 1 := rfl; rw [this]; omega)⟩
  have BYT : Aside0 (∀ w, Calls Try.prog 90 #[.int .u64 m8, .int .i64 8] w fun e w' => e = .returned (.string bz) ∧ Below w.heap.size w w') := ⟨fun w => by
    rw [hbz]
    exact bytes_any m8 8 (by decide) w⟩
  have s128 : (⟨#[128]⟩ : ByteArray).size = 1 := rfl
  have k1 : (⟨#[128]⟩ : ByteArray).size + rs.size ≤ 9223372036854775807 := by rw [s128]; omega
  have k2 : ((⟨#[128]⟩ : ByteArray) ++ rs).size + bz.size ≤ 9223372036854775807 := by rw [ByteArray.size_append, s128]; omega
  have k3 : 1 + rs.size ≤ 9223372036854775807 := by omega
  have k4 : 1 + rs.size + bz.size ≤ 9223372036854775807 := by omega
  have HT : Aside0 ((⟨#[128]⟩ : ByteArray) ++ rs ++ bz = tailW rest.size many) := ⟨by rw [hrs, hbz, HZ.out.1, HZ.out.2.2]; rfl⟩
  obtain ⟨tw, htw⟩ : ∃ tw, tw = (⟨#[128]⟩ : ByteArray) ++ rs ++ bz := ⟨_, rfl⟩
  have HTW := Aside0.mk htw
  have HTB : Aside0 (rest.size + tw.size ≤ 140737488355328) := ⟨by rw [htw, ByteArray.size_append, ByteArray.size_append, s128]; have := HR.out; omega⟩
  obtain ⟨S2, hS2⟩ : ∃ S2, S2 = (eat ((rest ++ tw).size / 64) s (rest ++ tw)).1 := ⟨_, rfl⟩
  have HS2L : Aside0 (S2.length = 8) := ⟨by rw [hS2]; exact eat_length _ _ _ HS.out⟩
  have HSUM : Aside0 (outW S2 8 = sumW s rest many) := ⟨by rw [hS2, htw, HT.out]; rfl⟩
  have HS2 := Aside0.mk hS2
  have n0 := Aside0.mk (At.drew HC.out)
  have n1 := Aside0.mk HB1.out.drew
  have n2 := Aside0.mk (At.drew HH1.out)
  clear hS2 HC HB1 HH1 hrs hbz hz64 hrl hbl s128 htw c8 e1 e2 e2b
  have HC := n0
  have HB1 := n1
  have HH1 := n2
  clear n0 n1 n2
  go_region_with (first
    | (go_at_call 89; refine (REP.out _).mono ?_; rintro e w2 ⟨rfl, hb⟩; have n1 := Aside0.mk (at_go1 HC.out hb); have n2 := Aside0.mk (HB1.out.trans (hb.mono HB1.out.size)); have n3 := Aside0.mk (at_go1 HH1.out hb); clear HC HB1 HH1 hb c9; have HC := n1; have HB1 := n2; have HH1 := n3; clear n1 n2 n3; have c9 := HH1.out.cell 9 _ (hCells_many s rest many KK HS.out))
    | (go_at_call 90; refine (BYT.out _).mono ?_; rintro e w2 ⟨rfl, hb⟩; have n1 := Aside0.mk (at_go1 HC.out hb); have n2 := Aside0.mk (HB1.out.trans (hb.mono HB1.out.size)); have n3 := Aside0.mk (at_go1 HH1.out hb); clear HC HB1 HH1 hb c9; have HC := n1; have HB1 := n2; have HH1 := n3; clear n1 n2 n3; have c9 := HH1.out.cell 9 _ (hCells_many s rest many KK HS.out))
    | (go_at_call 88; rw [← HTW.out]; refine (add_any s rest tw many HS.out HTB.out w.heap.size _ HC.out).mono ?_; rw [← HS2.out]; rintro e w3 ⟨rfl, h2, hg⟩; have n2 := Aside0.mk (hg.bel HB1.out HB1.out.size (Nat.le_refl _)); clear HC HB1 HH1 hg c9; have HC := Aside0.mk h2; have HB1 := n2; clear n2 h2))
  all_goals
    have HCE : Aside0 (∀ j v, (u32s S2)[j]? = some v → w3.cell? ⟨w.heap.size, 0 + j, none⟩ = some v) := ⟨fun j v hj => by
      have hjl : j < 8 := by have := (List.getElem?_eq_some_iff.1 hj).1; rw [u32s_length, HS2L.out] at this; exact this
      rw [Nat.zero_add, HC.out.cell j _ (hCells_state S2 _ many KK j HS2L.out hjl)]
      rw [u32s_get _ _ (by rw [HS2L.out]; exact hjl)] at hj
      exact hj⟩
    have z110 := Try.sizeOf110
    clear k1 k2 k3 k4
    go_wp2_with ((with_reducible refine gate_dst (N := 31) rfl ?_); refine wpList_load_mid rfl _ _ rfl w.heap.size 0 rfl (u32s S2) _ HCE.out Try.underlying110 rfl (by rw [u32s_length, HS2L.out]; exact infoS8) ?_)
    go_loopg [5, 32] 8 (fun gg s5 s32 wx => ∃ i : Nat, i + gg = 8 ∧ s32 = .int .i64 i ∧ s5 = .string (outW S2 i) ∧ Below w.heap.size w wx)
    case atStart => exact ⟨0, by omega, rfl, rfl, HB1.out⟩
    case round =>
      obtain ⟨i, hi, rfl, rfl, hb⟩ := hrel
      clear HB1 HC HCE
      have HB := Aside0.mk hb
      clear hb
      cases gk with
      | zero =>
        have hi8 : i = 8 := by omega
        subst hi8
        go_wp2
        go_ret
        exact ⟨by rw [← HSUM.out]; rfl, HB.out⟩
      | succ gk =>
        have hi8 : (i : Int) < 8 := by omega
        have hix := index8 S2 i (by omega) HS2L.out wr
        have hcv : IntKind.u64.wrap ((gw S2 i).toNat : Int) = ((gw S2 i).toNat : Int) := by have := (gw S2 i).toNat_lt; rw [IntKind.wrap_u64]; omega
        obtain ⟨o, ho⟩ : ∃ o, o = outW S2 i := ⟨_, rfl⟩
        obtain ⟨by4, hby⟩ : ∃ b : ByteArray, b = ⟨(bytesL (gw S2 i).toNat 4).toArray⟩ := ⟨_, rfl⟩
        have ho2 : o.size + by4.size ≤ 9223372036854775807 := by rw [ho, hby, outW_size]; show 4 * i + (bytesL (gw S2 i).toNat 4).toArray.size ≤ _; rw [List.size_toArray, bytesL_length]; omega
        have HO : Aside0 (o ++ by4 = outW S2 (i + 1)) := ⟨by rw [ho, hby]; exact outW_succ S2 i⟩
        have BY4 : Aside0 (∀ w, Calls Try.prog 90 #[.int .u64 (gw S2 i).toNat, .int .i64 4] w fun e w' => e = .returned (.string by4) ∧ Below w.heap.size w w') := ⟨fun w => by
          rw [hby]
          exact bytes_any (gw S2 i).toNat 4 (by decide) w⟩
        rw [← ho]
        clear ho hby
        go_wp2_with (go_at_call 90; refine (BY4.out _).mono ?_; rintro e w4 ⟨rfl, hb⟩; have n2 := Aside0.mk (HB.out.trans (hb.mono HB.out.size)); clear HB hb; have HB := n2; clear n2)
        rw [HO.out]
        go_roundg gk
        case measure => omega
        case rel => exact ⟨i + 1, by omega, rfl, rfl, HB.out⟩
end Go.Proofs.Ytdegeodegjmddaa.Given

namespace Go.Proofs.Ytdegeodegjmddaa.Given
open Go.RowKit Go.Proofs.YtdegeodegjmddaaW.PrintWords Go.Proofs.YtdegeodegjmddaaW.PrintLast Go.Proofs.YtdegeodegjmddaaW.PrintMore
open Go.Proofs.Ytdegeodegjmddaa.Row Go.Proofs.Ytdegeodegjmddaa.Row.At
set_option maxRecDepth 100000
set_option linter.unusedVariables false
set_option linter.unusedSimpArgs false
attribute [-simp] Try.isAgg113 Try.sizeOf113
theorem eat_rest : ∀ n s r, n = r.size / 64 → (eat n s r).2.size < 64 ∧ (eat n s r).2.size = r.size % 64
  | 0, s, r, h => by simp only [eat]; omega
  | n + 1, s, r, h => by
    simp only [eat]
    rw [if_pos (by omega)]
    have e : (r.extract 64 r.size).size = r.size - 64 := by rw [ByteArray.size_extract]; omega
    have := eat_rest n (go64S s r.data.toList) (r.extract 64 r.size) (by rw [e]; omega)
    rw [e] at this
    omega
/-- the digest of bytes -/
def shaW (x : ByteArray) : ByteArray := sumW (eat (x.size / 64) H0 x).1 (eat (x.size / 64) H0 x).2 x.size
theorem shaW_size (x : ByteArray) : (shaW x).size = 32 := by rw [shaW, sumW, outW_size]
theorem empty_app (x : ByteArray) : (⟨#[]⟩ : ByteArray) ++ x = x := by apply ByteArray.ext; simp
set_option maxHeartbeats 1000000 in
theorem shaSum0_any (x : ByteArray) (hb : x.size ≤ 140737488351232) (w : World) :
    Calls Try.prog 74 #[.string x] w fun e w' => e = .returned (.string (shaW x)) ∧ Below w.heap.size w w' := by
  have HX := Aside0.mk hb
  clear hb
  go_enter Try.func74, Try.ntmps74
  go_wp2_with (first
    | (go_at_call 79; refine (shaNew_any _).mono ?_; rintro e w1 ⟨rfl, ha, hb⟩; have HA := Aside0.mk ha; have HB := Aside0.mk hb; clear ha hb)
    | (go_at_call 80; refine (shaAdd_any H0 ⟨#[]⟩ x 0 rfl (by have := HX.out; show 0 + x.size ≤ _; omega) (by have := HX.out; omega) w.heap.size _ HA.out).mono ?_; rw [empty_app, Nat.zero_add]; rintro e w2 ⟨rfl, ha, hg⟩; have n1 := Aside0.mk ha; have n2 := Aside0.mk (hg.bel HB.out HB.out.size (Nat.le_refl _)); clear HA HB ha hg; have HA := n1; have HB := n2; clear n1 n2)
    | (go_at_call 81; refine (shaSum_any (eat (x.size / 64) H0 x).1 (eat (x.size / 64) H0 x).2 x.size (eat_length _ _ _ rfl) (eat_rest _ _ _ rfl).1 (by have := HX.out; omega) w.heap.size _ HA.out).mono ?_; rintro e w3 ⟨rfl, hb⟩; have n2 := Aside0.mk (HB.out.trans (hb.mono HB.out.size)); clear HA HB hb; have HB := n2; clear n2))
  go_ret
  exact ⟨rfl, HB.out⟩
theorem shaSum_nil (w : World) :
    Calls Try.prog 81 #[.pointer none] w fun e w' => e = .returned (.string (shaW ⟨#[]⟩)) ∧ Below w.heap.size w w' := by
  go_enter Try.func81, Try.ntmps81
  go_wp2_with (go_at_call 74; refine (shaSum0_any ⟨#[]⟩ (by decide) _).mono ?_; rintro e w3 ⟨rfl, hb⟩; have HB := Aside0.mk hb; clear hb)
  go_ret
  exact ⟨rfl, HB.out⟩
/-- a key, filled up and put together with a byte -/
def padK (key : ByteArray) (c : UInt8) : ByteArray := ⟨((key.data.toList ++ List.replicate (64 - key.size) 0).map (· ^^^ c)).toArray⟩
theorem info64b : (Try.prog.info? 96).map (·.size) = some 64 := by kernel_rfl
def padN (key : ByteArray) (c : UInt8) (i : Nat) : List UInt8 :=
  ((key.data.toList ++ List.replicate (64 - key.size) 0).map (· ^^^ c)).take i ++ (key.data.toList ++ List.replicate (64 - key.size) 0).drop i
theorem padL_length (key : ByteArray) (hk : key.size ≤ 64) : (key.data.toList ++ List.replicate (64 - key.size) (0 : UInt8)).length = 64 := by
  rw [List.length_append, List.length_replicate]
  have : key.data.toList.length = key.size := Array.length_toList
  omega
theorem padN_length (key : ByteArray) (c : UInt8) (i : Nat) (hk : key.size ≤ 64) : (padN key c i).length = 64 := by
  have := padL_length key hk
  simp only [padN, List.length_append, List.length_take, List.length_map, List.length_drop] at this ⊢
  omega
theorem padN_set (key : ByteArray) (c : UInt8) (i : Nat) (hk : key.size ≤ 64) (h : i < 64) : (padN key c i).set i (gb (padN key c i) i ^^^ c) = padN key c (i + 1) := by
  have hl := padL_length key hk
  have hp := padN_length key c i hk
  unfold padN at hp ⊢
  generalize (key.data.toList ++ List.replicate (64 - key.size) (0 : UInt8)) = l at *
  have ht : ((l.map (· ^^^ c)).take i).length = i := by rw [List.length_take, List.length_map]; omega
  have hg : gb ((l.map (· ^^^ c)).take i ++ l.drop i) i = l[i] := by
    rw [gb, List.getD_eq_getElem?_getD, List.getElem?_append_right (by omega), ht, Nat.sub_self, List.getElem?_drop, Nat.add_zero, List.getElem?_eq_getElem (by omega)]
    rfl
  rw [hg, List.set_append_right _ _ (by omega), ht, Nat.sub_self, ← List.take_append_getElem (by rw [List.length_map]; omega : i < (l.map (· ^^^ c)).length), List.append_assoc, ← List.getElem_cons_drop (by omega : i < l.length), List.set_cons_zero]
  simp
attribute [-simp] Try.isAgg96 Try.sizeOf96
set_option maxHeartbeats 1000000 in
theorem with_key (key : ByteArray) (hk : key.size ≤ 64) (c : UInt8) (g : Nat) (w : World) (h : At w g 9 [.string key]) :
    Calls Try.prog 75 #[.int .u8 c.toNat, .pointer (some ⟨g, 0, none⟩)] w fun e w' => e = .returned (.string (padK key c)) ∧ Below w.heap.size w w' := by
  have HK := Aside0.mk hk
  have HH := Aside0.mk h
  have hg := h.lt
  have c1 := h.cell 0 _ rfl
  have c2 : ∀ ob : Obj, (w.alloc ob).cell? ⟨g, 0, none⟩ = some (.string key) := fun ob => (h.alloc ob).cell 0 _ rfl
  clear hk h
  go_enter Try.func75, Try.ntmps75
  go_wp2
  have HL0 : Aside0 (spl (List.replicate 64 (0 : UInt8)) 0 (key.data.toList.take 64) = padN key c 0) := ⟨by
    have hl : key.data.toList.length = key.size := Array.length_toList
    have hk := HK.out
    rw [List.take_of_length_le (by omega), spl, padN]
    simp only [List.take_zero, List.nil_append, Nat.zero_add, List.drop_replicate, List.drop_zero, hl]⟩
  obtain ⟨wa, hwa⟩ : ∃ wa, wa = w.alloc (.cells (b8s (List.replicate 64 0)).toArray 96 (0, 0)) := ⟨_, rfl⟩
  have HA0 : Aside0 (At wa w.heap.size 96 (b8s (List.replicate 64 0))) := ⟨by rw [hwa]; exact At.newAt rfl⟩
  have HB0 : Aside0 (Below w.heap.size w wa) := ⟨by rw [hwa]; exact (Below.refl _ w).alloc (Nat.le_refl _) _⟩
  have c3 : wa.cell? ⟨g, 0, none⟩ = some (.string key) := by rw [hwa]; exact c2 _
  change Code.wp _ _ _ _ (w.alloc (.cells (b8s (List.replicate 64 0)).toArray 96 (0, 0)))
  rw [← hwa]
  clear hwa c1 c2 hg
  have z96 := Try.sizeOf96
  have y96 := Try.isAgg96
  refine wp_region_still_tail 2 (by kernel_rfl) (by kernel_rfl) ?_
  simp only [List.take_succ_cons, List.take_zero, List.drop_succ_cons, List.drop_zero]
  iterate 2 still_step
  refine wpStill_nil ?_
  change wpList _ _ _ _ _ wa.drew
  have HA1 := Aside0.mk HA0.out.drew
  have HB1 := Aside0.mk HB0.out.drew
  clear HA0 HB0 c3 z96 y96
  go_wp2_with (refine HA1.out.copyStr (.tmp 6) (.tmp 7) 43 9 5 0 64 64 key rfl rfl rfl rfl Try.underlying43 (by kernel_rfl) (by rw [List.length_replicate, Nat.zero_add]; exact Nat.min_le_right _ _) ?_; rw [HL0.out]; have n1 := Aside0.mk (HA1.out.setRow (b8s (padN key c 0))); have n2 := Aside0.mk (row_below HB1.out (Nat.le_refl _) (b8s (padN key c 0)).toArray); clear HA1 HB1; have HA1 := n1; have HB1 := n2; clear n1 n2)
  go_loopg [9] 64 (fun gg s9 wx => ∃ i : Nat, i + gg = 64 ∧ s9 = .int .i64 i ∧ At wx w.heap.size 96 (b8s (padN key c i)) ∧ Below w.heap.size w wx)
  case atStart => exact ⟨0, by omega, rfl, HA1.out, HB1.out⟩
  case round =>
    obtain ⟨i, hi, rfl, ha, hb⟩ := hrel
    clear HA1 HB1
    have HA := Aside0.mk ha
    have HB := Aside0.mk hb
    clear ha hb
    have HNL := Aside0.mk (padN_length key c i HK.out)
    cases gk with
    | zero =>
      have hi64 : i = 64 := by omega
      subst hi64
      have z96 := Try.sizeOf96
      have y96 := Try.isAgg96
      have hconv : (convert 43 9 (.slice (some ⟨w.heap.size, 0, none⟩) 64 64)).run Try.prog wr = .ok (.string ⟨(padN key c 64).toArray⟩) wr := by
        have := run_convert_bytes_back (P := Try.prog) wr 43 9 5 ⟨w.heap.size, 0, none⟩ 64 (padN key c 64) Try.underlying43 Try.underlying5 Try.underlying9 (fun j hj => by
          rw [Addr.add_mid, Nat.zero_add, HA.out.cell8 j hj]
          simp [gb, List.getD_eq_getElem?_getD, hj])
        rwa [HNL.out] at this
      go_wp2
      go_ret
      refine ⟨?_, HB.out⟩
      have e : padN key c 64 = (key.data.toList ++ List.replicate (64 - key.size) 0).map (· ^^^ c) := by
        have hl := padL_length key HK.out
        rw [padN, List.take_of_length_le (by rw [List.length_map]; omega), List.drop_of_length_le (by omega), List.append_nil]
      rw [padK, ← e]
      rfl
    | succ gk =>
      have hi64 : (i : Int) < 64 := by omega
      have c1 := HA.out.cell8 i (by rw [HNL.out]; omega)
      have f1 := HA.out.frozen i
      go_wp2
      rw [u8x]
      go_roundg gk
      case measure => omega
      case rel =>
        refine ⟨i + 1, by omega, rfl, ?_, HB.out.setCell (Nat.le_refl _) _⟩
        have h2 := HA.out.set8 i (gb (padN key c i) i ^^^ c)
        rw [padN_set key c i HK.out (by omega)] at h2
        exact h2
/-- the digest of bytes by a key -/
def keyW (key : ByteArray) : ByteArray := if 64 < key.size then shaW key else key
def hmacW (key x : ByteArray) : ByteArray := shaW (padK (keyW key) 92 ++ shaW (padK (keyW key) 54 ++ x))
theorem keyW_size (key : ByteArray) : (keyW key).size ≤ 64 := by
  unfold keyW
  split
  · rw [shaW_size]; decide
  · omega
theorem padK_size (key : ByteArray) (c : UInt8) (h : key.size ≤ 64) : (padK key c).size = 64 := by
  show ((key.data.toList ++ List.replicate (64 - key.size) 0).map (· ^^^ c)).toArray.size = 64
  rw [List.size_toArray, List.length_map, padL_length key h]
set_option maxHeartbeats 1000000 in
theorem hmac_any (key x : ByteArray) (hk : key.size ≤ 140737488351232) (hx : x.size ≤ 140737488351100) (w : World) :
    Calls Try.prog 65 #[.string key, .string x] w fun e w' => e = .returned (.string (hmacW key x)) ∧ Below w.heap.size w w' := by
  obtain ⟨k2, hk2⟩ : ∃ k2, k2 = keyW key := ⟨_, rfl⟩
  obtain ⟨p54, hp54⟩ : ∃ p, p = padK k2 54 := ⟨_, rfl⟩
  obtain ⟨p92, hp92⟩ : ∃ p, p = padK k2 92 := ⟨_, rfl⟩
  obtain ⟨inn, hinn⟩ : ∃ p, p = shaW (p54 ++ x) := ⟨_, rfl⟩
  have hk64 : k2.size ≤ 64 := by rw [hk2]; exact keyW_size key
  have s54 : p54.size = 64 := by rw [hp54]; exact padK_size _ _ hk64
  have s92 : p92.size = 64 := by rw [hp92]; exact padK_size _ _ hk64
  have sin : inn.size = 32 := by rw [hinn]; exact shaW_size _
  have l1 : p54.size + x.size ≤ 9223372036854775807 := by omega
  have l2 : p92.size + inn.size ≤ 9223372036854775807 := by omega
  have HR : Aside0 (hmacW key x = shaW (p92 ++ inn)) := ⟨by rw [hinn, hp92, hp54, hk2]; rfl⟩
  have W54 : Aside0 (∀ g w, At w g 9 [.string k2] → Calls Try.prog 75 #[.int .u8 54, .pointer (some ⟨g, 0, none⟩)] w fun e w' => e = .returned (.string p54) ∧ Below w.heap.size w w') := ⟨fun g w h => by rw [hp54]; exact with_key k2 hk64 54 g w h⟩
  have W92 : Aside0 (∀ g w, At w g 9 [.string k2] → Calls Try.prog 75 #[.int .u8 92, .pointer (some ⟨g, 0, none⟩)] w fun e w' => e = .returned (.string p92) ∧ Below w.heap.size w w') := ⟨fun g w h => by rw [hp92]; exact with_key k2 hk64 92 g w h⟩
  have SUM1 : Aside0 (∀ w, Calls Try.prog 74 #[.string (p54 ++ x)] w fun e w' => e = .returned (.string inn) ∧ Below w.heap.size w w') := ⟨fun w => by rw [hinn]; exact shaSum0_any _ (by rw [ByteArray.size_append, s54]; omega) w⟩
  have SUM2 : Aside0 (∀ w, Calls Try.prog 74 #[.string (p92 ++ inn)] w fun e w' => e = .returned (.string (shaW (p92 ++ inn))) ∧ Below w.heap.size w w') := ⟨fun w => shaSum0_any _ (by rw [ByteArray.size_append, s92, sin]; decide) w⟩
  have SUMK : Aside0 (∀ w, Calls Try.prog 74 #[.string key] w fun e w' => e = .returned (.string (shaW key)) ∧ Below w.heap.size w w') := ⟨fun w => shaSum0_any _ hk w⟩
  rw [HR.out]
  obtain ⟨res, hres⟩ : ∃ r, r = shaW (p92 ++ inn) := ⟨_, rfl⟩
  rw [← hres] at SUM2 ⊢
  have HK2 := Aside0.mk hk2
  clear hk2 hp54 hp92 hinn hk64 s54 s92 sin HR hres hk hx
  by_cases hb : 64 < key.size
  · have hb2 : (64 : Int) < (key.size : Int) := by omega
    have HKK : Aside0 (k2 = shaW key) := ⟨by rw [HK2.out, keyW, if_pos hb]⟩
    clear hb
    obtain ⟨sk, hsk⟩ : ∃ sk, sk = shaW key := ⟨_, rfl⟩
    rw [← hsk] at SUMK HKK
    have HA0 : Aside0 (At (w.alloc (.cells #[.string key] 9 (0, 0))) w.heap.size 9 [.string key]) := ⟨At.newAt rfl⟩
    have HB0 : Aside0 (Below w.heap.size w (w.alloc (.cells #[.string key] 9 (0, 0)))) := ⟨(Below.refl _ w).alloc (Nat.le_refl _) _⟩
    clear hsk
    go_enter Try.func65, Try.ntmps65
    go_wp2_with (first
      | (go_at_call 74; (with_reducible refine (SUMK.out _).mono ?_); rintro e w2 ⟨rfl, hb⟩; have n1 := Aside0.mk (at_go1 HA0.out hb); have n2 := Aside0.mk (HB0.out.trans (hb.mono HB0.out.size)); clear HA0 HB0 hb SUMK; have HA0 := n1; have HB0 := n2; clear n1 n2; have c1 := HA0.out.cell 0 _ rfl; have f1 := HA0.out.frozen 0; have HS0 : Aside0 (At (w2.setCell ⟨w.heap.size, 0, none⟩ (.string sk)) w.heap.size 9 [.string k2]) := ⟨(by rw [HKK.out]; exact HA0.out.set 0 (.string sk))⟩)
      | (go_at_call 75; (with_reducible refine (W92.out w.heap.size _ HS0.out).mono ?_); rintro e w3 ⟨rfl, hb⟩; have HA1 := Aside0.mk (at_go1 HS0.out hb); have HB1 := Aside0.mk ((HB0.out.setCell (p := ⟨w.heap.size, 0, none⟩) (Nat.le_refl _) (.string sk)).trans (hb.mono (by simpa [World.setCell] using HB0.out.size))); clear HA0 HB0 HS0 hb c1 f1)
      | (go_at_call 75; (with_reducible refine (W54.out w.heap.size _ HA1.out).mono ?_); rintro e w4 ⟨rfl, hb⟩; have n2 := Aside0.mk (HB1.out.trans (hb.mono HB1.out.size)); clear HA1 HB1 hb; have HB1 := n2; clear n2)
      | (go_at_call 74; (with_reducible refine (SUM1.out _).mono ?_); rintro e w5 ⟨rfl, hb⟩; have n2 := Aside0.mk (HB1.out.trans (hb.mono HB1.out.size)); clear HB1 hb SUM1; have HB1 := n2; clear n2)
      | (go_at_call 74; (with_reducible refine (SUM2.out _).mono ?_); rintro e w6 ⟨rfl, hb⟩; have n2 := Aside0.mk (HB1.out.trans (hb.mono HB1.out.size)); clear HB1 hb; have HB1 := n2; clear n2))
    go_ret
    exact ⟨rfl, HB1.out⟩
  · have hb2 : ¬ ((64 : Int) < (key.size : Int)) := by omega
    have HKK : Aside0 (k2 = key) := ⟨by rw [HK2.out, keyW, if_neg hb]⟩
    have HA0 : Aside0 (At (w.alloc (.cells #[.string key] 9 (0, 0))) w.heap.size 9 [.string k2]) := ⟨by rw [HKK.out]; exact At.newAt rfl⟩
    have HB0 : Aside0 (Below w.heap.size w (w.alloc (.cells #[.string key] 9 (0, 0)))) := ⟨(Below.refl _ w).alloc (Nat.le_refl _) _⟩
    clear hb SUMK
    go_enter Try.func65, Try.ntmps65
    go_wp2_with (first
      | (go_at_call 75; (with_reducible refine (W92.out w.heap.size _ HA0.out).mono ?_); rintro e w3 ⟨rfl, hb⟩; have HA1 := Aside0.mk (at_go1 HA0.out hb); have HB1 := Aside0.mk (HB0.out.trans (hb.mono HB0.out.size)); clear HA0 HB0 hb)
      | (go_at_call 75; (with_reducible refine (W54.out w.heap.size _ HA1.out).mono ?_); rintro e w4 ⟨rfl, hb⟩; have n2 := Aside0.mk (HB1.out.trans (hb.mono HB1.out.size)); clear HA1 HB1 hb; have HB1 := n2; clear n2)
      | (go_at_call 74; (with_reducible refine (SUM1.out _).mono ?_); rintro e w5 ⟨rfl, hb⟩; have n2 := Aside0.mk (HB1.out.trans (hb.mono HB1.out.size)); clear HB1 hb SUM1; have HB1 := n2; clear n2)
      | (go_at_call 74; (with_reducible refine (SUM2.out _).mono ?_); rintro e w6 ⟨rfl, hb⟩; have n2 := Aside0.mk (HB1.out.trans (hb.mono HB1.out.size)); clear HB1 hb; have HB1 := n2; clear n2))
    go_ret
    exact ⟨rfl, HB1.out⟩
/-- What sha.Sum and sha.Hmac tell. -/
def sha_Sum.f (a0 : ByteArray) : Option ByteArray := if a0.size ≤ 140737488351232 then some (shaW a0) else none
theorem sha_Sum.calls (a0 r : ByteArray) (w : World) (h : sha_Sum.f a0 = some r) : Calls Try.prog 74 #[.string a0] w fun e w' => e = .returned (.string r) ∧ Below w.heap.size w w' := by
  unfold sha_Sum.f at h
  split at h
  · rename_i hd
    obtain rfl := Option.some.inj h
    exact shaSum0_any a0 hd w
  · cases h
def sha_Hmac.f (a0 a1 : ByteArray) : Option ByteArray := if a0.size ≤ 140737488351232 ∧ a1.size ≤ 140737488351100 then some (hmacW a0 a1) else none
theorem sha_Hmac.calls (a0 a1 r : ByteArray) (w : World) (h : sha_Hmac.f a0 a1 = some r) : Calls Try.prog 65 #[.string a0, .string a1] w fun e w' => e = .returned (.string r) ∧ Below w.heap.size w w' := by
  unfold sha_Hmac.f at h
  split at h
  · rename_i hd
    obtain rfl := Option.some.inj h
    exact hmac_any a0 a1 hd.1 hd.2 w
  · cases h
end Go.Proofs.Ytdegeodegjmddaa.Given
