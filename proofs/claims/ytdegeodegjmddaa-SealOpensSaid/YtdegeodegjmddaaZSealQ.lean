/- The contracts of derive.Key and seal.Lock. Conditions: as each theorem names them. The contract of seal.Open. Conditions: fewer than 2^47 bytes. The plain law of locked streams. Conditions: as each theorem names them. -/
import Derived.Test.YtdegeodegjmddaaZDerQ
import Derived.Test.YtdegeodegjmddaaZCbcQ2
import Derived.Test.YtdegeodegjmddaaShelf
set_option linter.unusedVariables false
set_option linter.unusedSimpArgs false
namespace Go.Proofs.Ytdegeodegjmddaa.Given
open Go.RowKit Go.Proofs.YtdegeodegjmddaaW.PrintWords Go.Proofs.YtdegeodegjmddaaW.PrintLast Go.Proofs.YtdegeodegjmddaaW.PrintMore
open Go.Proofs.Ytdegeodegjmddaa.Row Go.Proofs.Ytdegeodegjmddaa.Row.At Go.Proofs.Ytdegeodegjmddaa.Cbc
set_option maxRecDepth 100000
set_option linter.unusedVariables false
set_option linter.unusedSimpArgs false
/-- The key and the check. -/
def keyOf (pw salt : ByteArray) (r : Int) : ByteArray := stretchW pw salt r.toNat 1
def signOf (pw salt : ByteArray) (r : Int) : ByteArray := (stretchW pw salt r.toNat 2).extract 0 8
theorem keyOf_size (pw salt : ByteArray) (r : Int) : (keyOf pw salt r).size = 32 := stretchW_size _ _ _ _
theorem signOf_size (pw salt : ByteArray) (r : Int) : (signOf pw salt r).size = 8 := by rw [signOf, ByteArray.size_extract, stretchW_size]; rfl
theorem key_ok (pw salt : ByteArray) (r : Int) (w : World) (h1 : pw.size ≤ 64) (h2 : salt.size = 16) (h3 : 1 ≤ r) (h4 : r ≤ 64) :
    Calls Try.prog 17 #[.string pw, .string salt, .int .i64 r] w fun e w' => e = .returned (.tuple #[.string (keyOf pw salt r), .string (signOf pw salt r), .int .i64 0]) ∧ Below w.heap.size w w' := by
  have H1 := Aside0.mk (stretch_f pw salt r 1 h1 h2 h3 h4 (by omega) (by omega))
  have H2 := Aside0.mk (stretch_f pw salt r 2 h1 h2 h3 h4 (by omega) (by omega))
  have hk : keyOf pw salt r = stretchW pw salt r.toNat (1 : Int).toNat := rfl
  have hs : signOf pw salt r = (stretchW pw salt r.toNat (2 : Int).toNat).extract 0 8 := rfl
  rw [hk, hs]
  obtain ⟨s1, hs1⟩ : ∃ s, s = stretchW pw salt r.toNat (1 : Int).toNat := ⟨_, rfl⟩
  obtain ⟨s2, hs2⟩ : ∃ s, s = stretchW pw salt r.toNat (2 : Int).toNat := ⟨_, rfl⟩
  have z2 : s2.size = 32 := by rw [hs2]; exact stretchW_size _ _ _ _
  rw [← hs1] at H1 ⊢
  rw [← hs2] at H2 ⊢
  have l8 : (8 : Int) ≤ (s2.size : Int) := by omega
  clear h1 h2 h3 h4 hk hs hs1 hs2
  have HB := Aside0.mk (Below.refl w.heap.size w)
  go_enter Try.func17, Try.ntmps17
  go_wp2_with (first
    | (go_at_call 27; (with_reducible refine (derive_Stretch.calls _ _ _ _ _ _ _ H1.out).mono ?_); rintro e w1 ⟨rfl, hb⟩; have n1 := Aside0.mk (HB.out.trans (hb.mono HB.out.size)); clear HB hb H1; have HB := n1; clear n1)
    | (go_at_call 27; (with_reducible refine (derive_Stretch.calls _ _ _ _ _ _ _ H2.out).mono ?_); rintro e w2 ⟨rfl, hb⟩; have n1 := Aside0.mk (HB.out.trans (hb.mono HB.out.size)); clear HB hb; have HB := n1; clear n1))
  go_quiet (skip)
  go_wp2
  go_ret3
  exact ⟨rfl, by repeat (first | (with_reducible first | exact HB.out | apply below_alloc | apply pw_below_drewN | apply below_drew1) | exact HB.out)⟩
theorem key_no (pw salt : ByteArray) (r : Int) (w : World) (h : ¬ (pw.size ≤ 64 ∧ salt.size = 16 ∧ 1 ≤ r ∧ r ≤ 64)) :
    Calls Try.prog 17 #[.string pw, .string salt, .int .i64 r] w fun e w' => e = .returned (.tuple #[.string ⟨#[]⟩, .string ⟨#[]⟩, .int .i64 1]) ∧ Below w.heap.size w w' := by
  have H1 := Aside0.mk (stretch_no pw salt r 1 (fun hh => h ⟨hh.1, hh.2.1, hh.2.2.1, hh.2.2.2.1⟩))
  have HB := Aside0.mk (Below.refl w.heap.size w)
  clear h
  go_enter Try.func17, Try.ntmps17
  go_wp2_with (go_at_call 27; (with_reducible refine (derive_Stretch.calls _ _ _ _ _ _ _ H1.out).mono ?_); rintro e w1 ⟨rfl, hb⟩; have n1 := Aside0.mk (HB.out.trans (hb.mono HB.out.size)); clear HB hb H1; have HB := n1; clear n1)
  go_ret3
  exact ⟨rfl, HB.out⟩
/-- A locked stream. -/
def lockL (salt iv sign s : ByteArray) (r : Int) : List ByteArray := [⟨#[1]⟩, ⟨#[UInt8.ofNat r.toNat]⟩, salt, iv, sign, s]
theorem toList_notEmpty (p : ByteArray) (h : p.size ≠ 0) : p.toList.isEmpty = false := by
  rw [Lib.toList_data, List.isEmpty_eq_false_iff]
  intro e
  have := congrArg List.length e
  rw [Array.length_toList] at this
  exact h this
theorem lock_long (stream p salt iv : ByteArray) (r : Int) (w : World) (h : 1048576 < stream.size) :
    Calls Try.prog 10 #[.string stream, .agg #[.string p, .string salt, .string iv, .int .i64 r]] w fun e w' => e = .returned (.tuple #[.string ⟨#[]⟩, .int .i64 40]) ∧ Below w.heap.size w w' := by
  have h2 : (1048576 : Int) < (stream.size : Int) := by omega
  clear h
  go_enter Try.func10, Try.ntmps10
  go_wp2
  exact bodyPost_ret (res_tt rfl _ _ _ _ rfl rfl) rfl ⟨rfl, (Below.refl _ w).alloc (Nat.le_refl _) _⟩
theorem lock_plain (stream salt iv : ByteArray) (r : Int) (w : World) (h : stream.size ≤ 1048576) :
    Calls Try.prog 10 #[.string stream, .agg #[.string ⟨#[]⟩, .string salt, .string iv, .int .i64 r]] w fun e w' => e = .returned (.tuple #[.string (⟨#[0]⟩ ++ stream), .int .i64 0]) ∧ Below w.heap.size w w' := by
  have h2 : ¬ ((1048576 : Int) < (stream.size : Int)) := by omega
  have l1 : 1 + stream.size ≤ 9223372036854775807 := by omega
  clear h
  go_enter Try.func10, Try.ntmps10
  go_wp2
  exact bodyPost_ret (res_tt rfl _ _ _ _ rfl rfl) rfl ⟨rfl, (Below.refl _ w).alloc (Nat.le_refl _) _⟩
theorem lock_iv (stream p salt iv : ByteArray) (r : Int) (w : World) (h : stream.size ≤ 1048576) (hp : p.size ≠ 0) (hi : iv.size ≠ 16) :
    Calls Try.prog 10 #[.string stream, .agg #[.string p, .string salt, .string iv, .int .i64 r]] w fun e w' => e = .returned (.tuple #[.string ⟨#[]⟩, .int .i64 1]) ∧ Below w.heap.size w w' := by
  have h2 : ¬ ((1048576 : Int) < (stream.size : Int)) := by omega
  have h3 : ((iv.size : Int) != 16) = true := by simp; omega
  have h4 : p.toList.isEmpty = false := toList_notEmpty p hp
  clear h hp hi
  go_enter Try.func10, Try.ntmps10
  go_wp2
  exact bodyPost_ret (res_tt rfl _ _ _ _ rfl rfl) rfl ⟨rfl, (Below.refl _ w).alloc (Nat.le_refl _) _⟩
theorem lock_key (stream p salt iv : ByteArray) (r : Int) (w : World) (h : stream.size ≤ 1048576) (hp : p.size ≠ 0) (hi : iv.size = 16) (hk : ¬ (p.size ≤ 64 ∧ salt.size = 16 ∧ 1 ≤ r ∧ r ≤ 64)) :
    Calls Try.prog 10 #[.string stream, .agg #[.string p, .string salt, .string iv, .int .i64 r]] w fun e w' => e = .returned (.tuple #[.string ⟨#[]⟩, .int .i64 1]) ∧ Below w.heap.size w w' := by
  have h2 : ¬ ((1048576 : Int) < (stream.size : Int)) := by omega
  have h3 : ((iv.size : Int) != 16) = false := by simp [hi]
  have h4 : p.toList.isEmpty = false := toList_notEmpty p hp
  have HK := Aside0.mk hk
  clear h hp hi hk
  go_enter Try.func10, Try.ntmps10
  have HB : Aside0 (Below w.heap.size w (w.alloc (.cells #[.string p, .string salt, .string iv, .int .i64 r] 23 (0, 0)))) := ⟨(Below.refl _ w).alloc (Nat.le_refl _) _⟩
  go_wp2_with (go_at_call 17; (with_reducible refine (key_no _ _ _ _ HK.out).mono ?_); rintro e w1 ⟨rfl, hb⟩; have n1 := Aside0.mk (HB.out.trans (hb.mono HB.out.size)); clear HB hb HK; have HB := n1; clear n1)
  exact bodyPost_ret (res_tt rfl _ _ _ _ rfl rfl) rfl ⟨rfl, HB.out⟩
theorem byte_conv (x : Int) (hx : 0 ≤ x) (hx2 : x ≤ 64) (w : World) : (convert 43 9 (.slice (some ⟨w.heap.size, 0, none⟩) 1 1)).run Try.prog (w.alloc (.cells #[.int .u8 x] 5 (0, 0))) = .ok (.string ⟨#[UInt8.ofNat x.toNat]⟩) (w.alloc (.cells #[.int .u8 x] 5 (0, 0))) := by
  have e0 : ((UInt8.ofNat x.toNat).toNat : Int) = x := by rw [UInt8.toNat_ofNat']; omega
  have := run_convert_bytes_back (P := Try.prog) (w.alloc (.cells #[.int .u8 x] 5 (0, 0))) 43 9 5 ⟨w.heap.size, 0, none⟩ 1 [UInt8.ofNat x.toNat] Try.underlying43 Try.underlying5 Try.underlying9 (fun j hj => by
    have hj0 : j = 0 := by simp at hj; omega
    subst hj0
    rw [Addr.add_mid, Nat.zero_add, cell_of_row _ w.heap.size 0 _ _ _ (heap_alloc_new w _)]
    show some (Value.int .u8 x) = some (Value.int .u8 _)
    rw [show ([UInt8.ofNat x.toNat] : List UInt8)[0] = UInt8.ofNat x.toNat from rfl, e0])
  exact this
theorem join_flat : ∀ xs : List (List UInt8), Lib.join xs [] = xs.flatten
  | [] => rfl
  | [x] => by simp [Lib.join, List.intercalate]
  | x :: y :: l => by
    have := join_flat (y :: l)
    simp only [Lib.join, List.intercalate] at this ⊢
    rw [List.intersperse_cons_cons, List.flatten_cons, List.flatten_cons, this]
    simp
theorem join_six (xs : List ByteArray) (hl : xs.length = 6) (hs : (xs.map (·.data.toList)).flatten.length ≤ 140737488355328) (w : World) (g : Nat) (hg : g = w.heap.size) :
    Calls Try.prog 19 #[.slice (some ⟨g, 0, none⟩) 6 6, .string ⟨#[]⟩] (w.alloc (.cells (xs.map Value.string).toArray 9 (0, 0))) fun e w' => e = .returned (.string ⟨(xs.map (·.data.toList)).flatten.toArray⟩) ∧ Below w.heap.size w w' := by
  subst hg
  have := Try.strings_Join w.heap.size 0 6 xs ⟨#[]⟩ (w.alloc (.cells (xs.map Value.string).toArray 9 (0, 0))) (fun j x hj => by
    rw [Nat.zero_add, cell_of_row _ w.heap.size j _ _ _ (heap_alloc_new w _)]
    simp [hj]) (by simp) (by omega) (by omega) (by rw [show (⟨#[]⟩ : ByteArray).data.toList = [] from rfl, join_flat]; exact hs)
  rw [hl, show (⟨#[]⟩ : ByteArray).data.toList = [] from rfl, join_flat] at this
  exact this.mono fun e w' ⟨h1, h2⟩ => ⟨h1, ((Below.refl _ w).alloc (Nat.le_refl _) _).trans (h2.mono (by simp))⟩
theorem lock_ok (stream p salt iv : ByteArray) (r : Int) (w : World) (h : stream.size ≤ 1048576) (hp : p.size ≠ 0) (hi : iv.size = 16) (hk : p.size ≤ 64 ∧ salt.size = 16 ∧ 1 ≤ r ∧ r ≤ 64) :
    Calls Try.prog 10 #[.string stream, .agg #[.string p, .string salt, .string iv, .int .i64 r]] w fun e w' =>
      e = .returned (.tuple #[.string ⟨((lockL salt iv (signOf p salt r) (bs (sealB (keyOf p salt r) iv (blocksOf (frameW stream))).1) r).map (·.data.toList)).flatten.toArray⟩, .int .i64 0]) ∧ Below w.heap.size w w' := by
  have HLEN : Aside0 (((lockL salt iv (signOf p salt r) (bs (sealB (keyOf p salt r) iv (blocksOf (frameW stream))).1) r).map (·.data.toList)).flatten.length ≤ 140737488355328) := ⟨by
    have e1 : (signOf p salt r).data.toList.length = 8 := signOf_size p salt r
    have e2 : salt.data.toList.length = 16 := hk.2.1
    have e3 : iv.data.toList.length = 16 := hi
    have e4 : (bs (sealB (keyOf p salt r) iv (blocksOf (frameW stream))).1).data.toList.length ≤ 1048600 := by
      rw [toList_length, bs_size, sealB_length, blocksOf_length]
      have := frameL_length stream.data.toList
      rw [toList_length] at this
      have hf : (frameW stream).size = (frameL stream.data.toList).length := bs_size _
      unfold pad at this
      omega
    have e5 : (⟨#[1]⟩ : ByteArray).data.toList.length = 1 := rfl
    have e6 : (⟨#[UInt8.ofNat r.toNat]⟩ : ByteArray).data.toList.length = 1 := rfl
    simp only [lockL, List.map_cons, List.map_nil, List.flatten_cons, List.flatten_nil, List.length_append, List.length_nil, e1, e2, e3, e5, e6]
    omega⟩
  have h2 : ¬ ((1048576 : Int) < (stream.size : Int)) := by omega
  have h3 : ((iv.size : Int) != 16) = false := by simp [hi]
  have h4 : p.toList.isEmpty = false := toList_notEmpty p hp
  have HK := Aside0.mk (key_ok p salt r · hk.1 hk.2.1 hk.2.2.1 hk.2.2.2)
  have HS := Aside0.mk (seal_ok (keyOf p salt r) iv stream · (keyOf_size _ _ _) hi h)
  have HR := Aside0.mk (byte_conv r (by omega) (by omega))
  have hr : r % 256 = r := by omega
  clear h hp hi hk
  go_enter Try.func10, Try.ntmps10
  have HL : Aside0 (At (w.alloc (.cells #[.string p, .string salt, .string iv, .int .i64 r] 23 (0, 0))) w.heap.size 23 [.string p, .string salt, .string iv, .int .i64 r]) := ⟨At.newAt rfl⟩
  have HB : Aside0 (Below w.heap.size w (w.alloc (.cells #[.string p, .string salt, .string iv, .int .i64 r] 23 (0, 0)))) := ⟨(Below.refl _ w).alloc (Nat.le_refl _) _⟩
  go_wp2_with (first
    | (go_at_call 17; (with_reducible refine (HK.out _).mono ?_); rintro e w1 ⟨rfl, hb⟩; have n1 := Aside0.mk (HB.out.trans (hb.mono HB.out.size)); have n2 := Aside0.mk (at_go1 HL.out hb); clear HB HL hb HK; have HB := n1; have HL := n2; clear n1 n2; have c0 := HL.out.cell 0 _ rfl; have c1 := HL.out.cell 1 _ rfl; have c2 := HL.out.cell 2 _ rfl; have c3 := HL.out.cell 3 _ rfl)
    | (go_at_call 18; (with_reducible refine (HS.out _).mono ?_); rintro e w2 ⟨rfl, hb⟩; have n1 := Aside0.mk (HB.out.trans (hb.mono HB.out.size)); have n2 := Aside0.mk (at_go1 HL.out hb); clear HB HL hb HS c0 c1 c2 c3; have HB := n1; have HL := n2; clear n1 n2; have c0 := HL.out.cell 0 _ rfl; have c1 := HL.out.cell 1 _ rfl; have c2 := HL.out.cell 2 _ rfl; have c3 := HL.out.cell 3 _ rfl; have d1 : ∀ ob, (w2.alloc ob).cell? ⟨w.heap.size, 1, none⟩ = some (.string salt) := fun ob => (HL.out.alloc ob).cell 1 _ rfl; have d2 : ∀ ob, (w2.alloc ob).cell? ⟨w.heap.size, 2, none⟩ = some (.string iv) := fun ob => (HL.out.alloc ob).cell 2 _ rfl; have hconv := HR.out w2))
  refine (join_six _ rfl HLEN.out (w2.alloc (.cells #[.int .u8 r] 5 (0, 0))) _ (by simp)).mono ?_
  rintro e w3 ⟨rfl, hb⟩
  have HB3 : Aside0 (Below w.heap.size w w3) := ⟨(HB.out.alloc HB.out.size _).trans (hb.mono (by have := HB.out.size; simp; omega))⟩
  clear HB hb
  go_wp2
  exact bodyPost_ret (res_tt rfl _ _ _ _ rfl rfl) rfl ⟨rfl, HB3.out⟩
def lockW (stream p salt iv : ByteArray) (r : Int) : ByteArray := ⟨((lockL salt iv (signOf p salt r) (bs (sealB (keyOf p salt r) iv (blocksOf (frameW stream))).1) r).map (·.data.toList)).flatten.toArray⟩
/-- What seal.Lock tells. -/
def seal_Lock.f (a0 p salt iv : ByteArray) (r : Int) : Option (ByteArray × Int) :=
  if 1048576 < a0.size then some (⟨#[]⟩, 40) else if p.size = 0 then some (⟨#[0]⟩ ++ a0, 0) else if iv.size = 16 then (if p.size ≤ 64 ∧ salt.size = 16 ∧ 1 ≤ r ∧ r ≤ 64 then some (lockW a0 p salt iv r, 0) else some (⟨#[]⟩, 1)) else some (⟨#[]⟩, 1)
theorem seal_Lock.calls (a0 p salt iv : ByteArray) (r : Int) (r1 : ByteArray) (r2 : Int) (w : World) (h : seal_Lock.f a0 p salt iv r = some (r1, r2)) :
    Calls Try.prog 10 #[.string a0, .agg #[.string p, .string salt, .string iv, .int .i64 r]] w fun e w' => e = .returned (.tuple #[.string r1, .int .i64 r2]) ∧ Below w.heap.size w w' := by
  unfold seal_Lock.f at h
  split at h
  · rename_i h1
    simp only [Option.some.injEq, Prod.mk.injEq] at h
    obtain ⟨rfl, rfl⟩ := h
    exact lock_long a0 p salt iv r w h1
  · rename_i h1
    split at h
    · rename_i h2
      simp only [Option.some.injEq, Prod.mk.injEq] at h
      obtain ⟨rfl, rfl⟩ := h
      have hp : p = ⟨#[]⟩ := by
        apply ByteArray.ext
        exact Array.eq_empty_of_size_eq_zero h2
      rw [hp]
      exact lock_plain a0 salt iv r w (by omega)
    · rename_i h2
      split at h
      · rename_i h3
        split at h
        · rename_i h4
          simp only [Option.some.injEq, Prod.mk.injEq] at h
          obtain ⟨rfl, rfl⟩ := h
          exact lock_ok a0 p salt iv r w (by omega) h2 h3 h4
        · rename_i h4
          simp only [Option.some.injEq, Prod.mk.injEq] at h
          obtain ⟨rfl, rfl⟩ := h
          exact lock_key a0 p salt iv r w (by omega) h2 h3 h4
      · rename_i h3
        simp only [Option.some.injEq, Prod.mk.injEq] at h
        obtain ⟨rfl, rfl⟩ := h
        exact lock_iv a0 p salt iv r w (by omega) h2 h3
end Go.Proofs.Ytdegeodegjmddaa.Given

namespace Go.Proofs.Ytdegeodegjmddaa.Given
open Go.RowKit Go.Proofs.YtdegeodegjmddaaW.PrintWords Go.Proofs.YtdegeodegjmddaaW.PrintLast Go.Proofs.YtdegeodegjmddaaW.PrintMore
open Go.Proofs.Ytdegeodegjmddaa.Row Go.Proofs.Ytdegeodegjmddaa.Row.At Go.Proofs.Ytdegeodegjmddaa.Cbc
set_option maxRecDepth 100000
set_option linter.unusedVariables false
set_option linter.unusedSimpArgs false
/-- does a text begin by a byte? -/
def begins (s : ByteArray) (b : UInt8) : Bool := Lib.hasPrefix s.data.toList [b]
theorem begins_size {s : ByteArray} {b : UInt8} (h : begins s b = true) : 1 ≤ s.size := by
  rw [← toList_length]
  unfold begins Lib.hasPrefix at h
  cases hs : s.data.toList with
  | nil => rw [hs] at h; simp at h
  | cons x l => simp
theorem begins_one {s : ByteArray} {a b : UInt8} (h : begins s a = true) (hab : a ≠ b) : begins s b = false := by
  unfold begins Lib.hasPrefix at *
  cases hs : s.data.toList with
  | nil => rw [hs] at h; simp at h
  | cons x l =>
    rw [hs] at h
    have ha : a = x := by simpa [List.isPrefixOf] using h
    have hb : (b == x) = false := by
      rw [← ha]
      exact beq_eq_false_iff_ne.2 (Ne.symm hab)
    simp [List.isPrefixOf, hb]
theorem locked_any (s : ByteArray) (w : World) : Calls Try.prog 14 #[.string s] w fun e w' => e = .returned (.bool (begins s 1)) ∧ w' = w := by
  go_enter Try.func14, Try.ntmps14
  go_wp2_with (go_at_call 26; refine (Try.strings_HasPrefix _ _ _).mono ?_; rintro e w2 ⟨rfl, rfl⟩)
  go_ret
  exact ⟨rfl, rfl⟩
theorem cut_any (s : ByteArray) (w : World) : Calls Try.prog 20 #[.string s, .string ⟨#[0]⟩] w fun e w' => e = .returned (.tuple #[.string (if begins s 0 then s.extract 1 s.size else s), .bool (begins s 0)]) ∧ w' = w := by
  have h := Try.strings_CutPrefix s ⟨#[0]⟩ w
  have e : (⟨(Lib.trimPrefix s.data.toList (⟨#[0]⟩ : ByteArray).data.toList).toArray⟩ : ByteArray) = if begins s 0 then s.extract 1 s.size else s := by
    have hr := Lib.hasPrefix_raw s ⟨#[0]⟩
    by_cases hb : begins s 0 = true
    · rw [if_pos hb]
      have hb2 : Lib.hasPrefix s.data.toList (⟨#[0]⟩ : ByteArray).data.toList = true := hb
      rw [hb2, Bool.and_eq_true] at hr
      exact Lib.trimPrefix_hit s ⟨#[0]⟩ (of_decide_eq_true hr.1) hr.2
    · rw [if_neg hb]
      have hb2 : Lib.hasPrefix s.data.toList (⟨#[0]⟩ : ByteArray).data.toList = false := Bool.eq_false_iff.2 hb
      rw [hb2] at hr
      exact Lib.trimPrefix_miss s ⟨#[0]⟩ hr
  rw [e] at h
  exact h
theorem take_at (s : ByteArray) (a n g : Nat) (w : World) (hn : a + n ≤ s.size) (h : At w g 9 [.string (s.extract a s.size)]) :
    Calls Try.prog 21 #[.int .i64 n, .pointer (some ⟨g, 0, none⟩)] w fun e w' => e = .returned (.string (s.extract a (a + n))) ∧ w' = w.setCell ⟨g, 0, none⟩ (.string (s.extract (a + n) s.size)) := by
  obtain ⟨x, hx⟩ : ∃ x, x = s.extract a s.size := ⟨_, rfl⟩
  have hz : x.size = s.size - a := by rw [hx, ByteArray.size_extract]; omega
  have e1 : x.extract 0 n = s.extract a (a + n) := by rw [hx, ByteArray.extract_extract]; congr 1; omega
  have e2 : x.extract n x.size = s.extract (a + n) s.size := by rw [hz, hx, ByteArray.extract_extract]; congr 1; omega
  rw [← hx] at h
  rw [← e1, ← e2]
  have l1 : (n : Int) ≤ (x.size : Int) := by omega
  have c1 := h.cell 0 _ rfl
  have f1 := h.frozen 0
  clear hx e1 e2 h hn hz
  go_enter Try.func21, Try.ntmps21
  go_wp2
  go_ret
  exact ⟨rfl, rfl⟩
theorem open_plain (s pw : ByteArray) (w : World) (h0 : begins s 0 = true) (hl : s.size ≤ 1048577) :
    Calls Try.prog 11 #[.string s, .string pw] w fun e w' => e = .returned (.tuple #[.string (s.extract 1 s.size), .int .i64 0]) ∧ Below w.heap.size w w' := by
  obtain ⟨x, hx⟩ : ∃ x, x = s.extract 1 s.size := ⟨_, rfl⟩
  have hz : x.size = s.size - 1 := by rw [hx, ByteArray.size_extract]; omega
  have l1 : ¬ ((1048576 : Int) < (x.size : Int)) := by omega
  have HC : Aside0 (∀ w, Calls Try.prog 20 #[.string s, .string ⟨#[0]⟩] w fun e w' => e = .returned (.tuple #[.string x, .bool true]) ∧ w' = w) := ⟨fun w => by have := cut_any s w; rw [if_pos h0, h0, ← hx] at this; exact this⟩
  rw [← hx]
  clear hx hz h0 hl
  go_enter Try.func11, Try.ntmps11
  go_wp2_with (go_at_call 20; (with_reducible refine (HC.out _).mono ?_); rintro e w2 ⟨rfl, rfl⟩)
  exact bodyPost_ret (res_tt rfl _ _ _ _ rfl rfl) rfl ⟨rfl, (Below.refl _ _).alloc (Nat.le_refl _) _⟩
theorem open_plain_long (s pw : ByteArray) (w : World) (h0 : begins s 0 = true) (hl : 1048577 < s.size) :
    Calls Try.prog 11 #[.string s, .string pw] w fun e w' => e = .returned (.tuple #[.string ⟨#[]⟩, .int .i64 4]) ∧ Below w.heap.size w w' := by
  obtain ⟨x, hx⟩ : ∃ x, x = s.extract 1 s.size := ⟨_, rfl⟩
  have hz : x.size = s.size - 1 := by rw [hx, ByteArray.size_extract]; omega
  have l1 : ((1048576 : Int) < (x.size : Int)) := by omega
  have HC : Aside0 (∀ w, Calls Try.prog 20 #[.string s, .string ⟨#[0]⟩] w fun e w' => e = .returned (.tuple #[.string x, .bool true]) ∧ w' = w) := ⟨fun w => by have := cut_any s w; rw [if_pos h0, h0, ← hx] at this; exact this⟩
  clear hx hz h0 hl
  go_enter Try.func11, Try.ntmps11
  go_wp2_with (go_at_call 20; (with_reducible refine (HC.out _).mono ?_); rintro e w2 ⟨rfl, rfl⟩)
  exact bodyPost_ret (res_tt rfl _ _ _ _ rfl rfl) rfl ⟨rfl, (Below.refl _ _).alloc (Nat.le_refl _) _⟩
theorem cut_no (s : ByteArray) (h0 : begins s 0 = false) (w : World) : Calls Try.prog 20 #[.string s, .string ⟨#[0]⟩] w fun e w' => e = .returned (.tuple #[.string s, .bool false]) ∧ w' = w := by
  have := cut_any s w
  rw [h0] at this
  exact this
theorem open_form1 (s pw : ByteArray) (w : World) (h0 : begins s 0 = false) (h1 : begins s 1 = false) :
    Calls Try.prog 11 #[.string s, .string pw] w fun e w' => e = .returned (.tuple #[.string ⟨#[]⟩, .int .i64 4]) ∧ Below w.heap.size w w' := by
  have HC := Aside0.mk (cut_no s h0)
  have HL : Aside0 (∀ w, Calls Try.prog 14 #[.string s] w fun e w' => e = .returned (.bool false) ∧ w' = w) := ⟨fun w => by rw [← h1]; exact locked_any s w⟩
  clear h0 h1
  go_enter Try.func11, Try.ntmps11
  go_wp2_with (first
    | (go_at_call 20; (with_reducible refine (HC.out _).mono ?_); rintro e w2 ⟨rfl, rfl⟩)
    | (go_at_call 14; (with_reducible refine (HL.out _).mono ?_); rintro e w3 ⟨rfl, rfl⟩))
  exact bodyPost_ret (res_tt rfl _ _ _ _ rfl rfl) rfl ⟨rfl, (Below.refl _ _).alloc (Nat.le_refl _) _⟩
theorem open_form2 (s pw : ByteArray) (w : World) (h0 : begins s 0 = false) (h1 : begins s 1 = true) (hl : s.size < 42) :
    Calls Try.prog 11 #[.string s, .string pw] w fun e w' => e = .returned (.tuple #[.string ⟨#[]⟩, .int .i64 4]) ∧ Below w.heap.size w w' := by
  have HC := Aside0.mk (cut_no s h0)
  have HL : Aside0 (∀ w, Calls Try.prog 14 #[.string s] w fun e w' => e = .returned (.bool true) ∧ w' = w) := ⟨fun w => by rw [← h1]; exact locked_any s w⟩
  have l1 : (s.size : Int) < 42 := by omega
  clear h0 h1 hl
  go_enter Try.func11, Try.ntmps11
  go_wp2_with (first
    | (go_at_call 20; (with_reducible refine (HC.out _).mono ?_); rintro e w2 ⟨rfl, rfl⟩)
    | (go_at_call 14; (with_reducible refine (HL.out _).mono ?_); rintro e w3 ⟨rfl, rfl⟩))
  exact bodyPost_ret (res_tt rfl _ _ _ _ rfl rfl) rfl ⟨rfl, (Below.refl _ _).alloc (Nat.le_refl _) _⟩
/-- the parts of a locked stream -/
def roundsOf (s : ByteArray) : Int := ((gb s.data.toList 1).toNat : Int)
theorem index_one (s : ByteArray) (h : 42 ≤ s.size) (w : World) : (Instr.index 9 (.string (s.extract 1 2)) (.int .i64 0)).run Try.prog w = .ok (.int .u8 (roundsOf s)) w := by
  have hz : (s.extract 1 2).size = 1 := by rw [ByteArray.size_extract]; omega
  have := index_text (s.extract 1 2) 0 (by omega) w
  have e : gb (s.extract 1 2).data.toList 0 = gb s.data.toList 1 := by
    rw [ByteArray.data_extract, Array.toList_extract, List.extract_eq_take_drop]
    simp [gb, List.getD_eq_getElem?_getD, List.getElem?_take, List.getElem?_drop]
  rw [e] at this
  exact this
/-- The walk up to the sizes' check, with what stands there. -/
structure Took (s : ByteArray) (w W : World) (g : Nat) (a : Nat) : Prop where
  box : At W g 9 [.string (s.extract a s.size)]
  bel : Below w.heap.size w W
  hg : g = w.heap.size
theorem Took.take {s : ByteArray} {w W : World} {g a : Nat} (h : Took s w W g a) (n : Int) (b : Nat) (hb : (b : Int) = a + n) (ha : a ≤ b) (hn : b ≤ s.size) :
    Calls Try.prog 21 #[.int .i64 n, .pointer (some ⟨g, 0, none⟩)] W fun e w' => e = .returned (.string (s.extract a b)) ∧ Took s w w' g b := by
  obtain rfl : n = ((b - a : Nat) : Int) := by omega
  have e : a + (b - a) = b := by omega
  have := take_at s a (b - a) g W (by omega) h.box
  rw [e] at this
  exact this.mono fun e w' ⟨h1, h2⟩ => ⟨h1, by rw [h2]; exact ⟨h.box.set 0 _, h.bel.setCell (by have := h.hg; dsimp; omega) _, h.hg⟩⟩
theorem Took.go {s : ByteArray} {w W W' : World} {g a : Nat} (h : Took s w W g a) (hb : Below W.heap.size W W') : Took s w W' g a := ⟨at_go1 h.box hb, h.bel.trans (hb.mono h.bel.size), h.hg⟩
theorem took_start (s : ByteArray) (w : World) : Took s w (w.alloc (.cells #[.string s] 9 (0, 0))) w.heap.size 0 := by
  refine ⟨?_, (Below.refl _ w).alloc (Nat.le_refl _) _, rfl⟩
  have e : s.extract 0 s.size = s := by simp
  rw [e]
  exact At.newAt rfl
theorem rounds_lt (s : ByteArray) : 0 ≤ roundsOf s ∧ roundsOf s < 256 := by
  have := (gb s.data.toList 1).toNat_lt
  unfold roundsOf
  omega
set_option maxHeartbeats 1000000 in
theorem open_rounds (s pw : ByteArray) (w : World) (h0 : begins s 0 = false) (h1 : begins s 1 = true) (hl : 42 ≤ s.size) (hr : roundsOf s < 1 ∨ 64 < roundsOf s) :
    Calls Try.prog 11 #[.string s, .string pw] w fun e w' => e = .returned (.tuple #[.string ⟨#[]⟩, .int .i64 4]) ∧ Below w.heap.size w w' := by
  have HC := Aside0.mk (cut_no s h0)
  have HL : Aside0 (∀ w, Calls Try.prog 14 #[.string s] w fun e w' => e = .returned (.bool true) ∧ w' = w) := ⟨fun w => by rw [← h1]; exact locked_any s w⟩
  have l1 : ¬ ((s.size : Int) < 42) := by omega
  have HZ := Aside0.mk hl
  have HIX := Aside0.mk (index_one s hl)
  obtain ⟨r, hrr⟩ : ∃ r, r = roundsOf s := ⟨_, rfl⟩
  have hw : wrap64 r = r := by have := rounds_lt s; unfold wrap64; omega
  rw [← hrr] at hr HIX
  clear h0 h1 hl hrr
  by_cases r1 : r < 1
  · clear hr
    go_enter Try.func11, Try.ntmps11
    have HT0 : Aside0 (Took s w (w.alloc (.cells #[.string s] 9 (0, 0))) w.heap.size 0) := ⟨took_start s w⟩
    go_wp2_with (first
      | (go_at_call 20; (with_reducible refine (HC.out _).mono ?_); rintro e w2 ⟨rfl, rfl⟩)
      | (go_at_call 14; (with_reducible refine (HL.out _).mono ?_); rintro e w3 ⟨rfl, rfl⟩)
      | (go_at_call 21; (with_reducible refine (HT0.out.take 1 1 (by decide) (by omega) (by have := HZ.out; omega)).mono ?_); rintro e w4 ⟨rfl, ht⟩; have HT1 := Aside0.mk ht; clear ht HT0)
      | (go_at_call 21; (with_reducible refine (HT1.out.take 1 2 (by decide) (by omega) (by have := HZ.out; omega)).mono ?_); rintro e w5 ⟨rfl, ht⟩; have HT2 := Aside0.mk ht; have hix := HIX.out w5; clear ht HT1)
      | (go_at_call 21; (with_reducible refine (HT2.out.take 16 18 (by decide) (by omega) (by have := HZ.out; omega)).mono ?_); rintro e w6 ⟨rfl, ht⟩; have HT3 := Aside0.mk ht; clear ht HT2 hix)
      | (go_at_call 21; (with_reducible refine (HT3.out.take 16 34 (by decide) (by omega) (by have := HZ.out; omega)).mono ?_); rintro e w7 ⟨rfl, ht⟩; have HT4 := Aside0.mk ht; clear ht HT3)
      | (go_at_call 21; (with_reducible refine (HT4.out.take 8 42 (by decide) (by omega) (by have := HZ.out; omega)).mono ?_); rintro e w8 ⟨rfl, ht⟩; have HT5 := Aside0.mk ht; clear ht HT4))
    exact bodyPost_ret (res_tt rfl _ _ _ _ rfl rfl) rfl ⟨rfl, HT5.out.bel⟩
  · have r2 : 64 < r := by omega
    clear hr
    go_enter Try.func11, Try.ntmps11
    have HT0 : Aside0 (Took s w (w.alloc (.cells #[.string s] 9 (0, 0))) w.heap.size 0) := ⟨took_start s w⟩
    go_wp2_with (first
      | (go_at_call 20; (with_reducible refine (HC.out _).mono ?_); rintro e w2 ⟨rfl, rfl⟩)
      | (go_at_call 14; (with_reducible refine (HL.out _).mono ?_); rintro e w3 ⟨rfl, rfl⟩)
      | (go_at_call 21; (with_reducible refine (HT0.out.take 1 1 (by decide) (by omega) (by have := HZ.out; omega)).mono ?_); rintro e w4 ⟨rfl, ht⟩; have HT1 := Aside0.mk ht; clear ht HT0)
      | (go_at_call 21; (with_reducible refine (HT1.out.take 1 2 (by decide) (by omega) (by have := HZ.out; omega)).mono ?_); rintro e w5 ⟨rfl, ht⟩; have HT2 := Aside0.mk ht; have hix := HIX.out w5; clear ht HT1)
      | (go_at_call 21; (with_reducible refine (HT2.out.take 16 18 (by decide) (by omega) (by have := HZ.out; omega)).mono ?_); rintro e w6 ⟨rfl, ht⟩; have HT3 := Aside0.mk ht; clear ht HT2 hix)
      | (go_at_call 21; (with_reducible refine (HT3.out.take 16 34 (by decide) (by omega) (by have := HZ.out; omega)).mono ?_); rintro e w7 ⟨rfl, ht⟩; have HT4 := Aside0.mk ht; clear ht HT3)
      | (go_at_call 21; (with_reducible refine (HT4.out.take 8 42 (by decide) (by omega) (by have := HZ.out; omega)).mono ?_); rintro e w8 ⟨rfl, ht⟩; have HT5 := Aside0.mk ht; clear ht HT4))
    exact bodyPost_ret (res_tt rfl _ _ _ _ rfl rfl) rfl ⟨rfl, HT5.out.bel⟩
set_option maxHeartbeats 1000000 in
theorem open_pass0 (s pw : ByteArray) (w : World) (h0 : begins s 0 = false) (h1 : begins s 1 = true) (hl : 42 ≤ s.size) (hr : 1 ≤ roundsOf s ∧ roundsOf s ≤ 64) (hp : 64 < pw.size) :
    Calls Try.prog 11 #[.string s, .string pw] w fun e w' => e = .returned (.tuple #[.string ⟨#[]⟩, .int .i64 61]) ∧ Below w.heap.size w w' := by
  have HC := Aside0.mk (cut_no s h0)
  have HL : Aside0 (∀ w, Calls Try.prog 14 #[.string s] w fun e w' => e = .returned (.bool true) ∧ w' = w) := ⟨fun w => by rw [← h1]; exact locked_any s w⟩
  have l1 : ¬ ((s.size : Int) < 42) := by omega
  have HZ := Aside0.mk hl
  have HIX := Aside0.mk (index_one s hl)
  obtain ⟨r, hrr⟩ : ∃ r, r = roundsOf s := ⟨_, rfl⟩
  have hw : wrap64 r = r := by have := rounds_lt s; unfold wrap64; omega
  have HK := Aside0.mk (fun w => key_no pw (s.extract 2 18) r w (by omega))
  rw [← hrr] at hr HIX
  have r1 : ¬ r < 1 := by omega
  have r2 : ¬ 64 < r := by omega
  clear h0 h1 hl hrr hr hp
  go_enter Try.func11, Try.ntmps11
  have HT0 : Aside0 (Took s w (w.alloc (.cells #[.string s] 9 (0, 0))) w.heap.size 0) := ⟨took_start s w⟩
  go_wp2_with (first
    | (go_at_call 20; (with_reducible refine (HC.out _).mono ?_); rintro e w2 ⟨rfl, rfl⟩)
    | (go_at_call 14; (with_reducible refine (HL.out _).mono ?_); rintro e w3 ⟨rfl, rfl⟩)
    | (go_at_call 21; (with_reducible refine (HT0.out.take 1 1 (by decide) (by omega) (by have := HZ.out; omega)).mono ?_); rintro e w4 ⟨rfl, ht⟩; have HT1 := Aside0.mk ht; clear ht HT0)
    | (go_at_call 21; (with_reducible refine (HT1.out.take 1 2 (by decide) (by omega) (by have := HZ.out; omega)).mono ?_); rintro e w5 ⟨rfl, ht⟩; have HT2 := Aside0.mk ht; have hix := HIX.out w5; clear ht HT1)
    | (go_at_call 21; (with_reducible refine (HT2.out.take 16 18 (by decide) (by omega) (by have := HZ.out; omega)).mono ?_); rintro e w6 ⟨rfl, ht⟩; have HT3 := Aside0.mk ht; clear ht HT2 hix)
    | (go_at_call 21; (with_reducible refine (HT3.out.take 16 34 (by decide) (by omega) (by have := HZ.out; omega)).mono ?_); rintro e w7 ⟨rfl, ht⟩; have HT4 := Aside0.mk ht; clear ht HT3)
    | (go_at_call 21; (with_reducible refine (HT4.out.take 8 42 (by decide) (by omega) (by have := HZ.out; omega)).mono ?_); rintro e w8 ⟨rfl, ht⟩; have HT5 := Aside0.mk ht; clear ht HT4)
    | (go_at_call 17; (with_reducible refine (HK.out _).mono ?_); rintro e w9 ⟨rfl, hb⟩; have HT6 := Aside0.mk (HT5.out.go hb); clear hb HT5))
  exact bodyPost_ret (res_tt rfl _ _ _ _ rfl rfl) rfl ⟨rfl, HT6.out.bel⟩
set_option maxHeartbeats 1000000 in
theorem open_pass1 (s pw : ByteArray) (w : World) (h0 : begins s 0 = false) (h1 : begins s 1 = true) (hl : 42 ≤ s.size) (hr : 1 ≤ roundsOf s ∧ roundsOf s ≤ 64) (hp0 : pw.size = 0) :
    Calls Try.prog 11 #[.string s, .string pw] w fun e w' => e = .returned (.tuple #[.string ⟨#[]⟩, .int .i64 61]) ∧ Below w.heap.size w w' := by
  have hp : pw.size ≤ 64 := by omega
  obtain ⟨key, hkey⟩ : ∃ k, k = keyOf pw (s.extract 2 18) (roundsOf s) := ⟨_, rfl⟩
  obtain ⟨own, hown⟩ : ∃ k, k = signOf pw (s.extract 2 18) (roundsOf s) := ⟨_, rfl⟩
  have HC := Aside0.mk (cut_no s h0)
  have HL : Aside0 (∀ w, Calls Try.prog 14 #[.string s] w fun e w' => e = .returned (.bool true) ∧ w' = w) := ⟨fun w => by rw [← h1]; exact locked_any s w⟩
  have l1 : ¬ ((s.size : Int) < 42) := by omega
  have HZ := Aside0.mk hl
  have HIX := Aside0.mk (index_one s hl)
  obtain ⟨r, hrr⟩ : ∃ r, r = roundsOf s := ⟨_, rfl⟩
  have hw : wrap64 r = r := by have := rounds_lt s; unfold wrap64; omega
  have hes : (s.extract 2 18).size = 16 := by rw [ByteArray.size_extract]; omega
  have hei : (s.extract 18 34).size = 16 := by rw [ByteArray.size_extract]; omega
  have HK : Aside0 (∀ w, Calls Try.prog 17 #[.string pw, .string (s.extract 2 18), .int .i64 r] w fun e w' => e = .returned (.tuple #[.string key, .string own, .int .i64 0]) ∧ Below w.heap.size w w') := ⟨fun w => by rw [hkey, hown, hrr]; exact key_ok pw (s.extract 2 18) (roundsOf s) w hp hes hr.1 hr.2⟩
  have he : pw.toList.isEmpty = true := by rw [Lib.toList_data, List.isEmpty_iff]; exact List.eq_nil_of_length_eq_zero (by rw [toList_length]; exact hp0)
  rw [← hrr] at hr HIX
  have r1 : ¬ r < 1 := by omega
  have r2 : ¬ 64 < r := by omega
  clear h0 h1 hl hrr hr hp hp0 hkey hown hes hei
  go_enter Try.func11, Try.ntmps11
  have HT0 : Aside0 (Took s w (w.alloc (.cells #[.string s] 9 (0, 0))) w.heap.size 0) := ⟨took_start s w⟩
  go_wp2_with (first
    | (go_at_call 20; (with_reducible refine (HC.out _).mono ?_); rintro e w2 ⟨rfl, rfl⟩)
    | (go_at_call 14; (with_reducible refine (HL.out _).mono ?_); rintro e w3 ⟨rfl, rfl⟩)
    | (go_at_call 21; (with_reducible refine (HT0.out.take 1 1 (by decide) (by omega) (by have := HZ.out; omega)).mono ?_); rintro e w4 ⟨rfl, ht⟩; have HT1 := Aside0.mk ht; clear ht HT0)
    | (go_at_call 21; (with_reducible refine (HT1.out.take 1 2 (by decide) (by omega) (by have := HZ.out; omega)).mono ?_); rintro e w5 ⟨rfl, ht⟩; have HT2 := Aside0.mk ht; have hix := HIX.out w5; clear ht HT1)
    | (go_at_call 21; (with_reducible refine (HT2.out.take 16 18 (by decide) (by omega) (by have := HZ.out; omega)).mono ?_); rintro e w6 ⟨rfl, ht⟩; have HT3 := Aside0.mk ht; clear ht HT2 hix)
    | (go_at_call 21; (with_reducible refine (HT3.out.take 16 34 (by decide) (by omega) (by have := HZ.out; omega)).mono ?_); rintro e w7 ⟨rfl, ht⟩; have HT4 := Aside0.mk ht; clear ht HT3)
    | (go_at_call 21; (with_reducible refine (HT4.out.take 8 42 (by decide) (by omega) (by have := HZ.out; omega)).mono ?_); rintro e w8 ⟨rfl, ht⟩; have HT5 := Aside0.mk ht; clear ht HT4)
    | (go_at_call 17; (with_reducible refine (HK.out _).mono ?_); rintro e w9 ⟨rfl, hb⟩; have HT6 := Aside0.mk (HT5.out.go hb); clear hb HT5))
  exact bodyPost_ret (res_tt rfl _ _ _ _ rfl rfl) rfl ⟨rfl, HT6.out.bel⟩
set_option maxHeartbeats 1000000 in
theorem open_pass2 (s pw : ByteArray) (w : World) (h0 : begins s 0 = false) (h1 : begins s 1 = true) (hl : 42 ≤ s.size) (hr : 1 ≤ roundsOf s ∧ roundsOf s ≤ 64) (hp : pw.size ≤ 64) (hp0 : pw.size ≠ 0) (hn : signOf pw (s.extract 2 18) (roundsOf s) ≠ s.extract 34 42) :
    Calls Try.prog 11 #[.string s, .string pw] w fun e w' => e = .returned (.tuple #[.string ⟨#[]⟩, .int .i64 61]) ∧ Below w.heap.size w w' := by
  obtain ⟨key, hkey⟩ : ∃ k, k = keyOf pw (s.extract 2 18) (roundsOf s) := ⟨_, rfl⟩
  obtain ⟨own, hown⟩ : ∃ k, k = signOf pw (s.extract 2 18) (roundsOf s) := ⟨_, rfl⟩
  have HC := Aside0.mk (cut_no s h0)
  have HL : Aside0 (∀ w, Calls Try.prog 14 #[.string s] w fun e w' => e = .returned (.bool true) ∧ w' = w) := ⟨fun w => by rw [← h1]; exact locked_any s w⟩
  have l1 : ¬ ((s.size : Int) < 42) := by omega
  have HZ := Aside0.mk hl
  have HIX := Aside0.mk (index_one s hl)
  obtain ⟨r, hrr⟩ : ∃ r, r = roundsOf s := ⟨_, rfl⟩
  have hw : wrap64 r = r := by have := rounds_lt s; unfold wrap64; omega
  have hes : (s.extract 2 18).size = 16 := by rw [ByteArray.size_extract]; omega
  have hei : (s.extract 18 34).size = 16 := by rw [ByteArray.size_extract]; omega
  have HK : Aside0 (∀ w, Calls Try.prog 17 #[.string pw, .string (s.extract 2 18), .int .i64 r] w fun e w' => e = .returned (.tuple #[.string key, .string own, .int .i64 0]) ∧ Below w.heap.size w w') := ⟨fun w => by rw [hkey, hown, hrr]; exact key_ok pw (s.extract 2 18) (roundsOf s) w hp hes hr.1 hr.2⟩
  have he : pw.toList.isEmpty = false := toList_notEmpty pw hp0
  rw [← hown] at hn
  have hn2 : (own.toList == (s.extract 34 42).toList) = false := by
    rw [beq_eq_false_iff_ne]
    intro e
    rw [Lib.toList_data, Lib.toList_data] at e
    exact hn (ByteArray.ext (Array.toList_inj.1 e))
  clear hn
  rw [← hrr] at hr HIX
  have r1 : ¬ r < 1 := by omega
  have r2 : ¬ 64 < r := by omega
  clear h0 h1 hl hrr hr hp hp0 hkey hown hes hei
  go_enter Try.func11, Try.ntmps11
  have HT0 : Aside0 (Took s w (w.alloc (.cells #[.string s] 9 (0, 0))) w.heap.size 0) := ⟨took_start s w⟩
  go_wp2_with (first
    | (go_at_call 20; (with_reducible refine (HC.out _).mono ?_); rintro e w2 ⟨rfl, rfl⟩)
    | (go_at_call 14; (with_reducible refine (HL.out _).mono ?_); rintro e w3 ⟨rfl, rfl⟩)
    | (go_at_call 21; (with_reducible refine (HT0.out.take 1 1 (by decide) (by omega) (by have := HZ.out; omega)).mono ?_); rintro e w4 ⟨rfl, ht⟩; have HT1 := Aside0.mk ht; clear ht HT0)
    | (go_at_call 21; (with_reducible refine (HT1.out.take 1 2 (by decide) (by omega) (by have := HZ.out; omega)).mono ?_); rintro e w5 ⟨rfl, ht⟩; have HT2 := Aside0.mk ht; have hix := HIX.out w5; clear ht HT1)
    | (go_at_call 21; (with_reducible refine (HT2.out.take 16 18 (by decide) (by omega) (by have := HZ.out; omega)).mono ?_); rintro e w6 ⟨rfl, ht⟩; have HT3 := Aside0.mk ht; clear ht HT2 hix)
    | (go_at_call 21; (with_reducible refine (HT3.out.take 16 34 (by decide) (by omega) (by have := HZ.out; omega)).mono ?_); rintro e w7 ⟨rfl, ht⟩; have HT4 := Aside0.mk ht; clear ht HT3)
    | (go_at_call 21; (with_reducible refine (HT4.out.take 8 42 (by decide) (by omega) (by have := HZ.out; omega)).mono ?_); rintro e w8 ⟨rfl, ht⟩; have HT5 := Aside0.mk ht; clear ht HT4)
    | (go_at_call 17; (with_reducible refine (HK.out _).mono ?_); rintro e w9 ⟨rfl, hb⟩; have HT6 := Aside0.mk (HT5.out.go hb); clear hb HT5))
  exact bodyPost_ret (res_tt rfl _ _ _ _ rfl rfl) rfl ⟨rfl, HT6.out.bel⟩
set_option maxHeartbeats 1000000 in
theorem open_good (s pw x : ByteArray) (w : World) (h0 : begins s 0 = false) (h1 : begins s 1 = true) (hl : 42 ≤ s.size) (hr : 1 ≤ roundsOf s ∧ roundsOf s ≤ 64) (hp : pw.size ≤ 64) (hp0 : pw.size ≠ 0) (hn : signOf pw (s.extract 2 18) (roundsOf s) = s.extract 34 42)
    (hx : cbc_Open.f (keyOf pw (s.extract 2 18) (roundsOf s)) (s.extract 18 34) (s.extract 42 s.size) = some (x, 0)) :
    Calls Try.prog 11 #[.string s, .string pw] w fun e w' => e = .returned (.tuple #[.string x, .int .i64 0]) ∧ Below w.heap.size w w' := by
  obtain ⟨c, hc⟩ : ∃ c : Int, c = 0 := ⟨_, rfl⟩
  rw [← hc] at hx
  obtain ⟨key, hkey⟩ : ∃ k, k = keyOf pw (s.extract 2 18) (roundsOf s) := ⟨_, rfl⟩
  obtain ⟨own, hown⟩ : ∃ k, k = signOf pw (s.extract 2 18) (roundsOf s) := ⟨_, rfl⟩
  have HC := Aside0.mk (cut_no s h0)
  have HL : Aside0 (∀ w, Calls Try.prog 14 #[.string s] w fun e w' => e = .returned (.bool true) ∧ w' = w) := ⟨fun w => by rw [← h1]; exact locked_any s w⟩
  have l1 : ¬ ((s.size : Int) < 42) := by omega
  have HZ := Aside0.mk hl
  have HIX := Aside0.mk (index_one s hl)
  obtain ⟨r, hrr⟩ : ∃ r, r = roundsOf s := ⟨_, rfl⟩
  have hw : wrap64 r = r := by have := rounds_lt s; unfold wrap64; omega
  have hes : (s.extract 2 18).size = 16 := by rw [ByteArray.size_extract]; omega
  have hei : (s.extract 18 34).size = 16 := by rw [ByteArray.size_extract]; omega
  have HK : Aside0 (∀ w, Calls Try.prog 17 #[.string pw, .string (s.extract 2 18), .int .i64 r] w fun e w' => e = .returned (.tuple #[.string key, .string own, .int .i64 0]) ∧ Below w.heap.size w w') := ⟨fun w => by rw [hkey, hown, hrr]; exact key_ok pw (s.extract 2 18) (roundsOf s) w hp hes hr.1 hr.2⟩
  have he : pw.toList.isEmpty = false := toList_notEmpty pw hp0
  have hn2 : (own.toList == (s.extract 34 42).toList) = true := by rw [hown, hn]; exact beq_self_eq_true _
  have hcx := hx
  rw [← hkey] at hcx
  have HX := Aside0.mk (cbc_Open.calls key (s.extract 18 34) (s.extract 42 s.size) x c · hcx)
  rw [← hrr] at hr HIX
  have r1 : ¬ r < 1 := by omega
  have r2 : ¬ 64 < r := by omega
  subst hc
  clear h0 h1 hl hrr hr hp hp0 hkey hown hes hei hn hx hcx
  go_enter Try.func11, Try.ntmps11
  have HT0 : Aside0 (Took s w (w.alloc (.cells #[.string s] 9 (0, 0))) w.heap.size 0) := ⟨took_start s w⟩
  go_wp2_with (first
    | (go_at_call 20; (with_reducible refine (HC.out _).mono ?_); rintro e w2 ⟨rfl, rfl⟩)
    | (go_at_call 14; (with_reducible refine (HL.out _).mono ?_); rintro e w3 ⟨rfl, rfl⟩)
    | (go_at_call 21; (with_reducible refine (HT0.out.take 1 1 (by decide) (by omega) (by have := HZ.out; omega)).mono ?_); rintro e w4 ⟨rfl, ht⟩; have HT1 := Aside0.mk ht; clear ht HT0)
    | (go_at_call 21; (with_reducible refine (HT1.out.take 1 2 (by decide) (by omega) (by have := HZ.out; omega)).mono ?_); rintro e w5 ⟨rfl, ht⟩; have HT2 := Aside0.mk ht; have hix := HIX.out w5; clear ht HT1)
    | (go_at_call 21; (with_reducible refine (HT2.out.take 16 18 (by decide) (by omega) (by have := HZ.out; omega)).mono ?_); rintro e w6 ⟨rfl, ht⟩; have HT3 := Aside0.mk ht; clear ht HT2 hix)
    | (go_at_call 21; (with_reducible refine (HT3.out.take 16 34 (by decide) (by omega) (by have := HZ.out; omega)).mono ?_); rintro e w7 ⟨rfl, ht⟩; have HT4 := Aside0.mk ht; clear ht HT3)
    | (go_at_call 21; (with_reducible refine (HT4.out.take 8 42 (by decide) (by omega) (by have := HZ.out; omega)).mono ?_); rintro e w8 ⟨rfl, ht⟩; have HT5 := Aside0.mk ht; clear ht HT4)
    | (go_at_call 17; (with_reducible refine (HK.out _).mono ?_); rintro e w9 ⟨rfl, hb⟩; have HT6 := Aside0.mk (HT5.out.go hb); have c1 := HT6.out.box.cell 0 _ rfl; clear hb HT5)
    | (go_at_call 22; (with_reducible refine (HX.out _).mono ?_); rintro e w10 ⟨rfl, hb⟩; have HT7 := Aside0.mk (HT6.out.go hb); clear hb HT6 c1))
  exact bodyPost_ret (res_tt rfl _ _ _ _ rfl rfl) rfl ⟨rfl, HT7.out.bel⟩
set_option maxHeartbeats 1000000 in
theorem open_bad (s pw x : ByteArray) (c : Int) (hc : c ≠ 0) (w : World) (h0 : begins s 0 = false) (h1 : begins s 1 = true) (hl : 42 ≤ s.size) (hr : 1 ≤ roundsOf s ∧ roundsOf s ≤ 64) (hp : pw.size ≤ 64) (hp0 : pw.size ≠ 0) (hn : signOf pw (s.extract 2 18) (roundsOf s) = s.extract 34 42)
    (hx : cbc_Open.f (keyOf pw (s.extract 2 18) (roundsOf s)) (s.extract 18 34) (s.extract 42 s.size) = some (x, c)) :
    Calls Try.prog 11 #[.string s, .string pw] w fun e w' => e = .returned (.tuple #[.string ⟨#[]⟩, .int .i64 4]) ∧ Below w.heap.size w w' := by
  have hc2 : (c != 0) = true := by simpa using hc
  obtain ⟨key, hkey⟩ : ∃ k, k = keyOf pw (s.extract 2 18) (roundsOf s) := ⟨_, rfl⟩
  obtain ⟨own, hown⟩ : ∃ k, k = signOf pw (s.extract 2 18) (roundsOf s) := ⟨_, rfl⟩
  have HC := Aside0.mk (cut_no s h0)
  have HL : Aside0 (∀ w, Calls Try.prog 14 #[.string s] w fun e w' => e = .returned (.bool true) ∧ w' = w) := ⟨fun w => by rw [← h1]; exact locked_any s w⟩
  have l1 : ¬ ((s.size : Int) < 42) := by omega
  have HZ := Aside0.mk hl
  have HIX := Aside0.mk (index_one s hl)
  obtain ⟨r, hrr⟩ : ∃ r, r = roundsOf s := ⟨_, rfl⟩
  have hw : wrap64 r = r := by have := rounds_lt s; unfold wrap64; omega
  have hes : (s.extract 2 18).size = 16 := by rw [ByteArray.size_extract]; omega
  have hei : (s.extract 18 34).size = 16 := by rw [ByteArray.size_extract]; omega
  have HK : Aside0 (∀ w, Calls Try.prog 17 #[.string pw, .string (s.extract 2 18), .int .i64 r] w fun e w' => e = .returned (.tuple #[.string key, .string own, .int .i64 0]) ∧ Below w.heap.size w w') := ⟨fun w => by rw [hkey, hown, hrr]; exact key_ok pw (s.extract 2 18) (roundsOf s) w hp hes hr.1 hr.2⟩
  have he : pw.toList.isEmpty = false := toList_notEmpty pw hp0
  have hn2 : (own.toList == (s.extract 34 42).toList) = true := by rw [hown, hn]; exact beq_self_eq_true _
  have hcx := hx
  rw [← hkey] at hcx
  have HX := Aside0.mk (cbc_Open.calls key (s.extract 18 34) (s.extract 42 s.size) x c · hcx)
  rw [← hrr] at hr HIX
  have r1 : ¬ r < 1 := by omega
  have r2 : ¬ 64 < r := by omega
  clear hc
  clear h0 h1 hl hrr hr hp hp0 hkey hown hes hei hn hx hcx
  go_enter Try.func11, Try.ntmps11
  have HT0 : Aside0 (Took s w (w.alloc (.cells #[.string s] 9 (0, 0))) w.heap.size 0) := ⟨took_start s w⟩
  go_wp2_with (first
    | (go_at_call 20; (with_reducible refine (HC.out _).mono ?_); rintro e w2 ⟨rfl, rfl⟩)
    | (go_at_call 14; (with_reducible refine (HL.out _).mono ?_); rintro e w3 ⟨rfl, rfl⟩)
    | (go_at_call 21; (with_reducible refine (HT0.out.take 1 1 (by decide) (by omega) (by have := HZ.out; omega)).mono ?_); rintro e w4 ⟨rfl, ht⟩; have HT1 := Aside0.mk ht; clear ht HT0)
    | (go_at_call 21; (with_reducible refine (HT1.out.take 1 2 (by decide) (by omega) (by have := HZ.out; omega)).mono ?_); rintro e w5 ⟨rfl, ht⟩; have HT2 := Aside0.mk ht; have hix := HIX.out w5; clear ht HT1)
    | (go_at_call 21; (with_reducible refine (HT2.out.take 16 18 (by decide) (by omega) (by have := HZ.out; omega)).mono ?_); rintro e w6 ⟨rfl, ht⟩; have HT3 := Aside0.mk ht; clear ht HT2 hix)
    | (go_at_call 21; (with_reducible refine (HT3.out.take 16 34 (by decide) (by omega) (by have := HZ.out; omega)).mono ?_); rintro e w7 ⟨rfl, ht⟩; have HT4 := Aside0.mk ht; clear ht HT3)
    | (go_at_call 21; (with_reducible refine (HT4.out.take 8 42 (by decide) (by omega) (by have := HZ.out; omega)).mono ?_); rintro e w8 ⟨rfl, ht⟩; have HT5 := Aside0.mk ht; clear ht HT4)
    | (go_at_call 17; (with_reducible refine (HK.out _).mono ?_); rintro e w9 ⟨rfl, hb⟩; have HT6 := Aside0.mk (HT5.out.go hb); have c1 := HT6.out.box.cell 0 _ rfl; clear hb HT5)
    | (go_at_call 22; (with_reducible refine (HX.out _).mono ?_); rintro e w10 ⟨rfl, hb⟩; have HT7 := Aside0.mk (HT6.out.go hb); clear hb HT6 c1))
  exact bodyPost_ret (res_tt rfl _ _ _ _ rfl rfl) rfl ⟨rfl, HT7.out.bel⟩
/-- What seal.Open tells. -/
def seal_Open.f (s pw : ByteArray) : Option (ByteArray × Int) :=
  if begins s 0 = true then (if s.size ≤ 1048577 then some (s.extract 1 s.size, 0) else some (⟨#[]⟩, 4))
  else if begins s 1 = false ∨ s.size < 42 then some (⟨#[]⟩, 4)
  else if roundsOf s < 1 ∨ 64 < roundsOf s then some (⟨#[]⟩, 4)
  else if 64 < pw.size ∨ pw.size = 0 then some (⟨#[]⟩, 61)
  else if signOf pw (s.extract 2 18) (roundsOf s) = s.extract 34 42 then
    (cbc_Open.f (keyOf pw (s.extract 2 18) (roundsOf s)) (s.extract 18 34) (s.extract 42 s.size)).bind fun p => if p.2 = 0 then some (p.1, 0) else some (⟨#[]⟩, 4)
  else some (⟨#[]⟩, 61)
theorem seal_Open.calls (s pw : ByteArray) (r1 : ByteArray) (r2 : Int) (w : World) (h : seal_Open.f s pw = some (r1, r2)) :
    Calls Try.prog 11 #[.string s, .string pw] w fun e w' => e = .returned (.tuple #[.string r1, .int .i64 r2]) ∧ Below w.heap.size w w' := by
  unfold seal_Open.f at h
  split at h
  · rename_i h0
    split at h
    · rename_i hl
      simp only [Option.some.injEq, Prod.mk.injEq] at h
      obtain ⟨rfl, rfl⟩ := h
      exact open_plain s pw w h0 hl
    · rename_i hl
      simp only [Option.some.injEq, Prod.mk.injEq] at h
      obtain ⟨rfl, rfl⟩ := h
      exact open_plain_long s pw w h0 (by omega)
  · rename_i h0
    have h0 : begins s 0 = false := Bool.eq_false_iff.2 h0
    split at h
    · rename_i h1
      simp only [Option.some.injEq, Prod.mk.injEq] at h
      obtain ⟨rfl, rfl⟩ := h
      by_cases h2 : begins s 1 = true
      · exact open_form2 s pw w h0 h2 (h1.resolve_left (by rw [h2]; exact Bool.noConfusion))
      · exact open_form1 s pw w h0 (Bool.eq_false_iff.2 h2)
    · rename_i h1
      have h2 : begins s 1 = true := by
        cases hb : begins s 1 with
        | true => rfl
        | false => exact absurd (.inl hb) h1
      have hl : 42 ≤ s.size := Nat.le_of_not_lt fun e => h1 (.inr e)
      split at h
      · rename_i hr
        simp only [Option.some.injEq, Prod.mk.injEq] at h
        obtain ⟨rfl, rfl⟩ := h
        exact open_rounds s pw w h0 h2 hl hr
      · rename_i hr
        have hr : 1 ≤ roundsOf s ∧ roundsOf s ≤ 64 := by omega
        split at h
        · rename_i hp
          simp only [Option.some.injEq, Prod.mk.injEq] at h
          obtain ⟨rfl, rfl⟩ := h
          rcases hp with hp | hp
          · exact open_pass0 s pw w h0 h2 hl hr hp
          · exact open_pass1 s pw w h0 h2 hl hr hp
        · rename_i hp
          split at h
          · rename_i hn
            obtain ⟨⟨x, c⟩, hx, h⟩ := Option.bind_eq_some_iff.1 h
            dsimp only at h
            split at h
            · rename_i hc
              simp only [Option.some.injEq, Prod.mk.injEq] at h
              obtain ⟨rfl, rfl⟩ := h
              rw [hc] at hx
              exact open_good s pw x w h0 h2 hl hr (by omega) (by omega) hn hx
            · rename_i hc
              simp only [Option.some.injEq, Prod.mk.injEq] at h
              obtain ⟨rfl, rfl⟩ := h
              exact open_bad s pw x c hc w h0 h2 hl hr (by omega) (by omega) hn hx
          · rename_i hn
            simp only [Option.some.injEq, Prod.mk.injEq] at h
            obtain ⟨rfl, rfl⟩ := h
            exact open_pass2 s pw w h0 h2 hl hr (by omega) (by omega) hn
end Go.Proofs.Ytdegeodegjmddaa.Given

namespace Go.Proofs.Ytdegeodegjmddaa.Given
open Go.RowKit
open Go.Proofs.Ytdegeodegjmddaa.Row Go.Proofs.Ytdegeodegjmddaa.Cbc
set_option linter.unusedVariables false
set_option linter.unusedSimpArgs false
theorem part {s : ByteArray} {A B C : List UInt8} (h : s.data.toList = A ++ (B ++ C)) {i j : Nat} (hi : A.length = i) (hj : i + B.length = j) : s.extract i j = bs B := by
  apply ba_ext
  rw [extract_list, h, bs_toList, ← hj, ← hi, List.take_append, List.take_of_length_le (by omega), show A.length + B.length - A.length = B.length from by omega, List.take_left, List.drop_left]
/-- what stands ahead of the sealed bytes -/
def lockH (p salt iv : ByteArray) (r : Int) : List UInt8 := [1] ++ ([UInt8.ofNat r.toNat] ++ (salt.data.toList ++ (iv.data.toList ++ (signOf p salt r).data.toList)))
theorem lockH_length (p salt iv : ByteArray) (r : Int) (hs : salt.size = 16) (hi : iv.size = 16) : (lockH p salt iv r).length = 42 := by
  have e1 : (signOf p salt r).data.toList.length = 8 := signOf_size p salt r
  have e2 : salt.data.toList.length = 16 := hs
  have e3 : iv.data.toList.length = 16 := hi
  simp only [lockH, List.length_append, List.length_singleton, e1, e2, e3]
theorem seal_bytes (k f d : ByteArray) : bs (sealB k f (blocksOf (frameW d))).1 = sealW k f d := by rw [sealB_chain, sealW]
theorem lockW_list (a p salt iv : ByteArray) (r : Int) : (lockW a p salt iv r).data.toList = lockH p salt iv r ++ (sealW (keyOf p salt r) iv a).data.toList := by
  rw [lockW, seal_bytes]
  simp [lockL, lockH]
theorem lockW_size (a p salt iv : ByteArray) (r : Int) (hs : salt.size = 16) (hi : iv.size = 16) : (lockW a p salt iv r).size = 42 + (frameW a).size := by
  rw [← toList_length, lockW_list, List.length_append, lockH_length _ _ _ _ hs hi, toList_length, sealW_size]
/-- Whatever stands behind such a head, opened by whatever password. -/
theorem open_head (t p salt iv pw body : ByteArray) (r : Int) (h : t.data.toList = lockH p salt iv r ++ body.data.toList) (hs : salt.size = 16) (hi : iv.size = 16) (hr1 : 1 ≤ r) (hr2 : r ≤ 64) :
    seal_Open.f t pw = if 64 < pw.size ∨ pw.size = 0 then some (⟨#[]⟩, 61) else if signOf pw salt r = signOf p salt r then (cbc_Open.f (keyOf pw salt r) iv body).bind fun q => if q.2 = 0 then some (q.1, 0) else some (⟨#[]⟩, 4) else some (⟨#[]⟩, 61) := by
  have hl2 : salt.data.toList.length = 16 := hs
  have hl3 : iv.data.toList.length = 16 := hi
  have hl4 : (signOf p salt r).data.toList.length = 8 := signOf_size p salt r
  have hz : t.size = 42 + body.size := by rw [← toList_length, h, List.length_append, lockH_length _ _ _ _ hs hi, toList_length]
  have b1 : begins t 1 = true := by unfold begins Lib.hasPrefix; rw [h, lockH]; rfl
  have b0 : begins t 0 = false := begins_one b1 (by decide)
  have hro : roundsOf t = r := by
    unfold roundsOf
    rw [h, lockH]
    show ((UInt8.ofNat r.toNat).toNat : Int) = r
    rw [UInt8.toNat_ofNat']
    omega
  have e1 : t.extract 2 18 = salt := by
    rw [part (i := 2) (j := 18) (A := [1] ++ [UInt8.ofNat r.toNat]) (B := salt.data.toList) (C := iv.data.toList ++ ((signOf p salt r).data.toList ++ body.data.toList)) (by rw [h, lockH]; simp only [List.append_assoc]) rfl (by omega), bs_data]
  have e2 : t.extract 18 34 = iv := by
    rw [part (i := 18) (j := 34) (A := [1] ++ ([UInt8.ofNat r.toNat] ++ salt.data.toList)) (B := iv.data.toList) (C := (signOf p salt r).data.toList ++ body.data.toList) (by rw [h, lockH]; simp only [List.append_assoc]) (by simp only [List.length_append, List.length_singleton, hl2]) (by omega), bs_data]
  have e3 : t.extract 34 42 = signOf p salt r := by
    rw [part (i := 34) (j := 42) (A := [1] ++ ([UInt8.ofNat r.toNat] ++ (salt.data.toList ++ iv.data.toList))) (B := (signOf p salt r).data.toList) (C := body.data.toList) (by rw [h, lockH]; simp only [List.append_assoc]) (by simp only [List.length_append, List.length_singleton, hl2, hl3]) (by omega), bs_data]
  have e4 : t.extract 42 t.size = body := by
    rw [part (i := 42) (j := t.size) (A := lockH p salt iv r) (B := body.data.toList) (C := []) (by rw [h, List.append_nil]) (lockH_length _ _ _ _ hs hi) (by rw [hz, toList_length]), bs_data]
  unfold seal_Open.f
  rw [if_neg (by rw [b0]; exact Bool.noConfusion), if_neg (by rw [b1]; intro hh; rcases hh with hh | hh <;> first | exact Bool.noConfusion hh | omega), hro, if_neg (by omega), e1, e2, e3, e4]
theorem open_lock (a p salt iv : ByteArray) (r : Int) (ha : a.size ≤ 1048576) (hp : p.size ≤ 64) (hp0 : p.size ≠ 0) (hs : salt.size = 16) (hi : iv.size = 16) (hr1 : 1 ≤ r) (hr2 : r ≤ 64) : seal_Open.f (lockW a p salt iv r) p = some (a, 0) := by
  rw [open_head _ p salt iv p (sealW (keyOf p salt r) iv a) r (lockW_list _ _ _ _ _) hs hi hr1 hr2, if_neg (by omega), if_pos rfl]
  have h1 := sealW_size (keyOf p salt r) iv a
  have h2 := frameW_size a
  have h3 := frameW_mod a
  have h4 : pad a.size < 16 := by unfold pad; omega
  rw [open_f _ _ _ (keyOf_size _ _ _) hi (by omega) (by omega) (by omega), open_seal _ _ _ (keyOf_size _ _ _) hi ha]
  rfl
theorem open_zero (a pw : ByteArray) (ha : a.size ≤ 1048576) : seal_Open.f (⟨#[0]⟩ ++ a) pw = some (a, 0) := by
  have hz : ((⟨#[0]⟩ : ByteArray) ++ a).size = 1 + a.size := by rw [ByteArray.size_append]; rfl
  have b0 : begins (⟨#[0]⟩ ++ a) 0 = true := by unfold begins Lib.hasPrefix; simp
  have e : ((⟨#[0]⟩ : ByteArray) ++ a).extract 1 ((⟨#[0]⟩ : ByteArray) ++ a).size = a := by
    rw [part (i := 1) (j := ((⟨#[0]⟩ : ByteArray) ++ a).size) (A := [0]) (B := a.data.toList) (C := []) (by simp) rfl (by rw [hz, toList_length]), bs_data]
  unfold seal_Open.f
  rw [if_pos b0, if_pos (by omega), e]
/-- The same bytes come of the same data alone. -/
theorem lockW_inj (a b p salt iv : ByteArray) (r : Int) (ha : a.size ≤ 1048576) (hb : b.size ≤ 1048576) (hi : iv.size = 16) (h : lockW a p salt iv r = lockW b p salt iv r) : a = b := by
  have h1 := congrArg (fun x => x.data.toList) h
  rw [lockW_list, lockW_list] at h1
  have h2 := ba_ext (List.append_cancel_left h1)
  have h3 := open_seal (keyOf p salt r) iv a (keyOf_size _ _ _) hi ha
  rw [h2, open_seal (keyOf p salt r) iv b (keyOf_size _ _ _) hi hb] at h3
  exact ((Prod.mk.injEq ..).mp h3).1.symm
end Go.Proofs.Ytdegeodegjmddaa.Given
