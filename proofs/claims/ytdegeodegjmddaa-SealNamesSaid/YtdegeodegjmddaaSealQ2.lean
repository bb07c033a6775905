/- The plain law of locked streams. Conditions: as each theorem names them. The contracts of hamperlaw23.many, hamperlaw23.by and hamperlaw23.works. Conditions: many: at most 2^21 bytes. -/
import Derived.Test.YtdegeodegjmddaaSealQ1
import Derived.Test.YtdegeodegjmddaaCbcQ2
import Derived.Lib.QuietBelow
namespace Go.Proofs.Ytdegeodegjmddaa.Given
open Go.RowKit
open Go.Proofs.Ytdegeodegjmddaa.Row Go.Proofs.Ytdegeodegjmddaa.Cbc
set_option linter.unusedVariables false
set_option linter.unusedSimpArgs false
theorem part {s : ByteArray} {A B C : List UInt8} (h : s.data.toList = A ++ (B ++ C)) {i j : Nat} (hi : A.length = i) (hj : i + B.length = j) : s.extract i j = bs B := by
  apply ba_ext
  rw [extract_list, h, bs_toList, ← hj, ← hi, List.take_append, List.take_of_length_le (by omega), show A.length + B.length - A.length = B.length from by omega, List.take_left, List.drop_left]
/-- what stands ahead of the sealed bytes -/
def lockH (p salt iv : ByteArray) (r : Int) : List UInt8 := [1] ++ ([UInt8.ofNat r.toNat] ++ (salt.data.toList ++ (iv.data.toList ++ (signOf p salt r).data.toList)))
theorem lockH_length (p salt iv : ByteArray) (r : Int) (hs : salt.size = 16) (hi : iv.size = 16) : (lockH p salt iv r).length = 42 := by
  have e1 : (signOf p salt r).data.toList.length = 8 := signOf_size p salt r
  have e2 : salt.data.toList.length = 16 := hs
  have e3 : iv.data.toList.length = 16 := hi
  simp only [lockH, List.length_append, List.length_singleton, e1, e2, e3]
theorem seal_bytes (k f d : ByteArray) : bs (sealB k f (blocksOf (frameW d))).1 = sealW k f d := by rw [sealB_chain, sealW]
theorem lockW_list (a p salt iv : ByteArray) (r : Int) : (lockW a p salt iv r).data.toList = lockH p salt iv r ++ (sealW (keyOf p salt r) iv a).data.toList := by
  rw [lockW, seal_bytes]
  simp [lockL, lockH]
theorem lockW_size (a p salt iv : ByteArray) (r : Int) (hs : salt.size = 16) (hi : iv.size = 16) : (lockW a p salt iv r).size = 42 + (frameW a).size := by
  rw [← toList_length, lockW_list, List.length_append, lockH_length _ _ _ _ hs hi, toList_length, sealW_size]
/-- Whatever stands behind such a head, opened by whatever password. -/
theorem open_head (t p salt iv pw body : ByteArray) (r : Int) (h : t.data.toList = lockH p salt iv r ++ body.data.toList) (hs : salt.size = 16) (hi : iv.size = 16) (hr1 : 1 ≤ r) (hr2 : r ≤ 64) :
    seal_Open.f t pw = if 64 < pw.size ∨ pw.size = 0 then some (⟨#[]⟩, 61) else if signOf pw salt r = signOf p salt r then (cbc_Open.f (keyOf pw salt r) iv body).bind fun q => if q.2 = 0 then some (q.1, 0) else some (⟨#[]⟩, 4) else some (⟨#[]⟩, 61) := by
  have hl2 : salt.data.toList.length = 16 := hs
  have hl3 : iv.data.toList.length = 16 := hi
  have hl4 : (signOf p salt r).data.toList.length = 8 := signOf_size p salt r
  have hz : t.size = 42 + body.size := by rw [← toList_length, h, List.length_append, lockH_length _ _ _ _ hs hi, toList_length]
  have b1 : begins t 1 = true := by unfold begins Lib.hasPrefix; rw [h, lockH]; rfl
  have b0 : begins t 0 = false := begins_one b1 (by decide)
  have hro : roundsOf t = r := by
    unfold roundsOf
    rw [h, lockH]
    show ((UInt8.ofNat r.toNat).toNat : Int) = r
    rw [UInt8.toNat_ofNat']
    omega
  have e1 : t.extract 2 18 = salt := by
    rw [part (i := 2) (j := 18) (A := [1] ++ [UInt8.ofNat r.toNat]) (B := salt.data.toList) (C := iv.data.toList ++ ((signOf p salt r).data.toList ++ body.data.toList)) (by rw [h, lockH]; simp only [List.append_assoc]) rfl (by omega), bs_data]
  have e2 : t.extract 18 34 = iv := by
    rw [part (i := 18) (j := 34) (A := [1] ++ ([UInt8.ofNat r.toNat] ++ salt.data.toList)) (B := iv.data.toList) (C := (signOf p salt r).data.toList ++ body.data.toList) (by rw [h, lockH]; simp only [List.append_assoc]) (by simp only [List.length_append, List.length_singleton, hl2]) (by omega), bs_data]
  have e3 : t.extract 34 42 = signOf p salt r := by
    rw [part (i := 34) (j := 42) (A := [1] ++ ([UInt8.ofNat r.toNat] ++ (salt.data.toList ++ iv.data.toList))) (B := (signOf p salt r).data.toList) (C := body.data.toList) (by rw [h, lockH]; simp only [List.append_assoc]) (by simp only [List.length_append, List.length_singleton, hl2, hl3]) (by omega), bs_data]
  have e4 : t.extract 42 t.size = body := by
    rw [part (i := 42) (j := t.size) (A := lockH p salt iv r) (B := body.data.toList) (C := []) (by rw [h, List.append_nil]) (lockH_length _ _ _ _ hs hi) (by rw [hz, toList_length]), bs_data]
  unfold seal_Open.f
  rw [if_neg (by rw [b0]; exact Bool.noConfusion), if_neg (by rw [b1]; intro hh; rcases hh with hh | hh <;> first | exact Bool.noConfusion hh | omega), hro, if_neg (by omega), e1, e2, e3, e4]
theorem open_lock (a p salt iv : ByteArray) (r : Int) (ha : a.size ≤ 1048576) (hp : p.size ≤ 64) (hp0 : p.size ≠ 0) (hs : salt.size = 16) (hi : iv.size = 16) (hr1 : 1 ≤ r) (hr2 : r ≤ 64) : seal_Open.f (lockW a p salt iv r) p = some (a, 0) := by
  rw [open_head _ p salt iv p (sealW (keyOf p salt r) iv a) r (lockW_list _ _ _ _ _) hs hi hr1 hr2, if_neg (by omega), if_pos rfl]
  have h1 := sealW_size (keyOf p salt r) iv a
  have h2 := frameW_size a
  have h3 := frameW_mod a
  have h4 : pad a.size < 16 := by unfold pad; omega
  rw [open_f _ _ _ (keyOf_size _ _ _) hi (by omega) (by omega) (by omega), open_seal _ _ _ (keyOf_size _ _ _) hi ha]
  rfl
theorem open_zero (a pw : ByteArray) (ha : a.size ≤ 1048576) : seal_Open.f (⟨#[0]⟩ ++ a) pw = some (a, 0) := by
  have hz : ((⟨#[0]⟩ : ByteArray) ++ a).size = 1 + a.size := by rw [ByteArray.size_append]; rfl
  have b0 : begins (⟨#[0]⟩ ++ a) 0 = true := by unfold begins Lib.hasPrefix; simp
  have e : ((⟨#[0]⟩ : ByteArray) ++ a).extract 1 ((⟨#[0]⟩ : ByteArray) ++ a).size = a := by
    rw [part (i := 1) (j := ((⟨#[0]⟩ : ByteArray) ++ a).size) (A := [0]) (B := a.data.toList) (C := []) (by simp) rfl (by rw [hz, toList_length]), bs_data]
  unfold seal_Open.f
  rw [if_pos b0, if_pos (by omega), e]
/-- The same bytes come of the same data alone. -/
theorem lockW_inj (a b p salt iv : ByteArray) (r : Int) (ha : a.size ≤ 1048576) (hb : b.size ≤ 1048576) (hi : iv.size = 16) (h : lockW a p salt iv r = lockW b p salt iv r) : a = b := by
  have h1 := congrArg (fun x => x.data.toList) h
  rw [lockW_list, lockW_list] at h1
  have h2 := ba_ext (List.append_cancel_left h1)
  have h3 := open_seal (keyOf p salt r) iv a (keyOf_size _ _ _) hi ha
  rw [h2, open_seal (keyOf p salt r) iv b (keyOf_size _ _ _) hi hb] at h3
  exact ((Prod.mk.injEq ..).mp h3).1.symm
end Go.Proofs.Ytdegeodegjmddaa.Given

namespace Go.Proofs.Ytdegeodegjmddaa.Given
open Go.RowKit Go.Proofs.YtdegeodegjmddaaW.PrintWords Go.Proofs.YtdegeodegjmddaaW.PrintLast Go.Proofs.YtdegeodegjmddaaW.PrintMore
open Go.Proofs.Ytdegeodegjmddaa.Row Go.Proofs.Ytdegeodegjmddaa.Row.At Go.Proofs.Ytdegeodegjmddaa.Cbc
set_option maxRecDepth 100000
set_option linter.unusedVariables false
set_option linter.unusedSimpArgs false
/-- a byte, so often -/
def manyW (n : Nat) (c : UInt8) : ByteArray := ⟨(List.replicate n c).toArray⟩
theorem manyW_size (n : Nat) (c : UInt8) : (manyW n c).size = n := by simp [manyW, ByteArray.size]
theorem madeN (W : World) (n : Nat) : At (W.alloc (.cells (madeCells #[.int .u8 0] n) 5 (0, 0))) W.heap.size 5 (b8s (List.replicate n 0)) := by
  have e : madeCells #[.int .u8 0] n = (b8s (List.replicate n 0)).toArray := by
    have := toList_madeCells_one (.int .u8 0) n
    rw [← Array.toArray_toList (xs := madeCells #[.int .u8 0] n), this]
    simp [b8s, b8]
  rw [e]
  exact At.new W _ _
def manyN (n : Nat) (c : UInt8) (i : Nat) : List UInt8 := List.replicate i c ++ List.replicate (n - i) 0
theorem manyN_length (n : Nat) (c : UInt8) (i : Nat) (h : i ≤ n) : (manyN n c i).length = n := by simp [manyN]; omega
theorem manyN_set (n : Nat) (c : UInt8) (i : Nat) (h : i < n) : (manyN n c i).set i c = manyN n c (i + 1) := by
  have e : List.replicate (n - i) (0 : UInt8) = 0 :: List.replicate (n - (i + 1)) 0 := by rw [← List.replicate_succ]; congr 1; omega
  rw [manyN, e, List.set_append_right _ _ (by simp), List.length_replicate, Nat.sub_self, List.set_cons_zero, manyN, List.replicate_succ', List.append_assoc]
  rfl
set_option maxHeartbeats 1000000 in
theorem many_any (n : Nat) (c : UInt8) (hn : n ≤ 2097152) (w : World) :
    Calls Try.prog 16 #[.int .i64 n, .int .u8 c.toNat] w fun e w' => e = .returned (.string (manyW n c)) ∧ Below w.heap.size w w' := by
  have HN := Aside0.mk hn
  have hmk : ∀ W : World, (Instr.makeSlice 43 (.int .i64 n) (.int .i64 n)).run Try.prog W = .ok (.slice (some ⟨W.heap.size, 0, none⟩) n n) (W.alloc (.cells (madeCells #[.int .u8 0] n) 5)) := print_make (P := Try.prog) 43 5 .u8 1 Try.underlying43 (by kernel_rfl) (by decide) n (by omega)
  obtain ⟨C, hC⟩ : ∃ C, C = Obj.cells (madeCells #[.int .u8 0] n) 5 (0, 0) := ⟨_, rfl⟩
  have HG0 : Aside0 (At (w.alloc C) w.heap.size 5 (b8s (manyN n c 0))) := ⟨by rw [hC, manyN]; simpa using madeN w n⟩
  rw [← hC] at hmk
  clear hn hC
  go_enter Try.func16, Try.ntmps16
  go_wp2
  have HB0 : Aside0 (Below w.heap.size w (w.alloc C)) := ⟨(Below.refl _ w).alloc (Nat.le_refl _) _⟩
  go_loopg [6] n (fun gg s6 wr => ∃ i : Nat, i + gg = n ∧ s6 = .int .i64 i ∧ At wr w.heap.size 5 (b8s (manyN n c i)) ∧ Below w.heap.size w wr)
  case atStart => exact ⟨0, by omega, rfl, HG0.out, HB0.out⟩
  case round =>
    obtain ⟨i, hi, rfl, hga, hba⟩ := hrel
    have HG := Aside0.mk hga; have HB := Aside0.mk hba
    clear hga hba HG0 HB0
    cases gk with
    | zero =>
      have hin : i = n := by omega
      subst hin
      have hlt : ¬ ((i : Int) < (i : Int)) := by omega
      have hconv : (convert 43 9 (.slice (some ⟨w.heap.size, 0, none⟩) i i)).run Try.prog wr = .ok (.string (manyW i c)) wr := by
        have := run_convert_bytes_back (P := Try.prog) wr 43 9 5 ⟨w.heap.size, 0, none⟩ i (manyN i c i) Try.underlying43 Try.underlying5 Try.underlying9 (fun j hj => by
          rw [Addr.add_mid, Nat.zero_add, HG.out.cell8 j hj]
          simp [gb, List.getD_eq_getElem?_getD, hj])
        rw [manyN_length i c i (Nat.le_refl _)] at this
        have e : manyN i c i = List.replicate i c := by simp [manyN]
        rw [e] at this
        exact this
      go_wp2
      go_ret
      exact ⟨rfl, HB.out⟩
    | succ gk =>
      have hlt : (i : Int) < (n : Int) := by omega
      have c1 := HG.out.cell8 i (by rw [manyN_length _ _ _ (by omega)]; omega)
      have f1 := HG.out.frozen i
      go_wp2
      go_roundg gk
      case measure => omega
      case rel =>
        refine ⟨i + 1, by omega, by rw [wrap64_of_bounds (by omega) (by have := HN.out; omega)]; rfl, ?_, HB.out.setCell (Nat.le_refl _) _⟩
        have h2 := HG.out.set8 i c
        rw [manyN_set n c i (by omega)] at h2
        exact h2
theorem infoLock : (Try.prog.info? 23).map (·.size) = some 4 := by kernel_rfl
theorem by_any (p : ByteArray) (r : Int) (w : World) :
    Calls Try.prog 15 #[.string p, .int .i64 r] w fun e w' => e = .returned (.agg #[.string p, .string (manyW 16 0), .string (manyW 16 0), .int .i64 r]) ∧ Below w.heap.size w w' := by
  have H16 : Aside0 (∀ w, Calls Try.prog 16 #[.int .i64 16, .int .u8 0] w fun e w' => e = .returned (.string (manyW 16 0)) ∧ Below w.heap.size w w') := ⟨fun w => many_any 16 0 (by decide) w⟩
  go_enter Try.func15, Try.ntmps15
  have HL : Aside0 (At (w.alloc (.cells #[.string ⟨#[]⟩, .string ⟨#[]⟩, .string ⟨#[]⟩, .int .i64 0] 23 (0, 0))) w.heap.size 23 [.string ⟨#[]⟩, .string ⟨#[]⟩, .string ⟨#[]⟩, .int .i64 0]) := ⟨At.newAt rfl⟩
  have HB : Aside0 (Below w.heap.size w (w.alloc (.cells #[.string ⟨#[]⟩, .string ⟨#[]⟩, .string ⟨#[]⟩, .int .i64 0] 23 (0, 0)))) := ⟨(Below.refl _ w).alloc (Nat.le_refl _) _⟩
  go_wp2_with (first
    | (go_at_call 16; (with_reducible refine (H16.out _).mono ?_); rintro e w1 ⟨rfl, hb⟩; have n1 := Aside0.mk (HB.out.trans (hb.mono HB.out.size)); have n2 := Aside0.mk (at_go1 HL.out hb); clear HB HL hb; have HB := n1; have HL := n2; clear n1 n2)
    | (refine HL.out.store _ _ _ [.string p, .string (manyW 16 0), .string (manyW 16 0), .int .i64 r] rfl rfl rfl rfl rfl infoLock (by intro v hv; simp only [List.mem_cons, List.not_mem_nil, or_false] at hv; rcases hv with rfl | rfl | rfl | rfl <;> rfl) ?_; have n2 := Aside0.mk (HL.out.setRow [.string p, .string (manyW 16 0), .string (manyW 16 0), .int .i64 r]); have n1 := Aside0.mk (At.row_below (g := w.heap.size) HB.out (Nat.le_refl _) [.string p, .string (manyW 16 0), .string (manyW 16 0), .int .i64 r].toArray); clear HB HL; have HB := n1; have HL := n2; clear n1 n2))
  refine bodyPost_ret (HL.out.ret rfl _ _ rfl Try.underlying23 rfl infoLock) rfl ⟨rfl, HB.out⟩
set_option maxHeartbeats 2000000 in
theorem works_any (w : World) : Calls Try.prog 9 #[] w fun e w' => e = .returned (.bool true) ∧ Below w.heap.size w w' := by
  obtain ⟨z, hz⟩ : ∃ z, z = manyW 16 0 := ⟨_, rfl⟩
  have hzs : z.size = 16 := by rw [hz]; exact manyW_size _ _
  obtain ⟨b, hb⟩ : ∃ b, b = lockW ⟨#[97, 98]⟩ ⟨#[112]⟩ z z 1 := ⟨_, rfl⟩
  obtain ⟨m, hm⟩ : ∃ m, m = manyW 32 0 := ⟨_, rfl⟩
  have hms : m.size = 32 := by rw [hm]; exact manyW_size _ _
  have hbs : b.size = 58 := by rw [hb, lockW_size _ _ _ _ _ hzs hzs, frameW_size]; rfl
  have L0 : Aside0 (∀ w, Calls Try.prog 10 #[.string ⟨#[97, 98]⟩, .agg #[.string ⟨#[]⟩, .string ⟨#[]⟩, .string ⟨#[]⟩, .int .i64 0]] w fun e w' => e = .returned (.tuple #[.string ⟨#[0, 97, 98]⟩, .int .i64 0]) ∧ Below w.heap.size w w') := ⟨fun w => seal_Lock.calls _ _ _ _ _ _ _ w (by unfold seal_Lock.f; rw [if_neg (by decide), if_pos (by rfl)]; rfl)⟩
  have BY : Aside0 (∀ w, Calls Try.prog 15 #[.string ⟨#[112]⟩, .int .i64 1] w fun e w' => e = .returned (.agg #[.string ⟨#[112]⟩, .string z, .string z, .int .i64 1]) ∧ Below w.heap.size w w') := ⟨fun w => by rw [hz]; exact by_any _ _ w⟩
  have L1 : Aside0 (∀ w, Calls Try.prog 10 #[.string ⟨#[97, 98]⟩, .agg #[.string ⟨#[112]⟩, .string z, .string z, .int .i64 1]] w fun e w' => e = .returned (.tuple #[.string b, .int .i64 0]) ∧ Below w.heap.size w w') := ⟨fun w => seal_Lock.calls _ _ _ _ _ _ _ w (by unfold seal_Lock.f; rw [if_neg (by decide), if_neg (by decide), if_pos hzs, if_pos ⟨by decide, hzs, by decide, by decide⟩, hb])⟩
  have O0 : Aside0 (∀ w, Calls Try.prog 11 #[.string ⟨#[]⟩, .string ⟨#[]⟩] w fun e w' => e = .returned (.tuple #[.string ⟨#[]⟩, .int .i64 4]) ∧ Below w.heap.size w w') := ⟨fun w => seal_Open.calls _ _ _ _ w (by unfold seal_Open.f; rw [if_neg (by decide), if_pos (by decide)])⟩
  have O1 : Aside0 (∀ w, Calls Try.prog 11 #[.string b, .string ⟨#[]⟩] w fun e w' => e = .returned (.tuple #[.string ⟨#[]⟩, .int .i64 61]) ∧ Below w.heap.size w w') := ⟨fun w => seal_Open.calls _ _ _ _ w (by rw [open_head b ⟨#[112]⟩ z z ⟨#[]⟩ _ 1 (by rw [hb]; exact lockW_list _ _ _ _ _) hzs hzs (by decide) (by decide), if_pos (.inr rfl)])⟩
  have O2 : Aside0 (∀ w, Calls Try.prog 11 #[.string b, .string ⟨#[112]⟩] w fun e w' => e = .returned (.tuple #[.string ⟨#[97, 98]⟩, .int .i64 0]) ∧ Below w.heap.size w w') := ⟨fun w => seal_Open.calls _ _ _ _ w (by rw [hb]; exact open_lock _ _ _ _ _ (by decide) (by decide) (by decide) hzs hzs (by decide) (by decide))⟩
  have M32 : Aside0 (∀ w, Calls Try.prog 16 #[.int .i64 32, .int .u8 0] w fun e w' => e = .returned (.string m) ∧ Below w.heap.size w w') := ⟨fun w => by rw [hm]; exact many_any 32 0 (by decide) w⟩
  have hsl : b.extract 0 34 = ⟨#[1, 1]⟩ ++ m := by
    rw [part (s := b) (i := 0) (j := 34) (A := []) (B := [1] ++ ([1] ++ (z.data.toList ++ z.data.toList))) (C := (signOf ⟨#[112]⟩ z 1).data.toList ++ (sealW (keyOf ⟨#[112]⟩ z 1) z ⟨#[97, 98]⟩).data.toList) (by rw [hb, lockW_list, lockH]; simp) rfl (by have : z.data.toList.length = 16 := hzs; simp only [List.length_append, List.length_singleton, this])]
    apply ba_ext
    rw [bs_toList, hz, hm]
    simp [manyW]
  have s1 : ((b.extract 0 34).toList == ((⟨#[1, 1]⟩ : ByteArray) ++ m).toList) = true := by rw [hsl]; exact beq_self_eq_true _
  have l1 : 2 + m.size ≤ 9223372036854775807 := by omega
  have l1b : (9223372036854775807 < 2 + m.size) = False := eq_false (by omega)
  have l2 : (34 : Int) ≤ (b.size : Int) := by omega
  have l3 : (b.size : Int) = 58 := by omega
  clear hz hb hm hzs hms hbs hsl
  go_enter Try.func9, Try.ntmps9
  have HB : Aside0 (Below w.heap.size w w) := ⟨Below.refl _ w⟩
  go_wp2_with (first
    | (go_at_call 10; (with_reducible refine (L0.out _).mono ?_); rintro e w1 ⟨rfl, hb⟩; have n1 := Aside0.mk (HB.out.trans (hb.mono HB.out.size)); clear HB hb L0; have HB := n1; clear n1)
    | (go_at_call 15; (with_reducible refine (BY.out _).mono ?_); rintro e w2 ⟨rfl, hb⟩; have n1 := Aside0.mk (HB.out.trans (hb.mono HB.out.size)); clear HB hb BY; have HB := n1; clear n1)
    | (go_at_call 10; (with_reducible refine (L1.out _).mono ?_); rintro e w3 ⟨rfl, hb⟩; have n1 := Aside0.mk (HB.out.trans (hb.mono HB.out.size)); clear HB hb L1; have HB := n1; clear n1)
    | (go_at_call 11; (with_reducible refine (O0.out _).mono ?_); rintro e w4 ⟨rfl, hb⟩; have n1 := Aside0.mk (HB.out.trans (hb.mono HB.out.size)); clear HB hb O0; have HB := n1; clear n1)
    | (go_at_call 11; (with_reducible refine (O1.out _).mono ?_); rintro e w5 ⟨rfl, hb⟩; have n1 := Aside0.mk (HB.out.trans (hb.mono HB.out.size)); clear HB hb O1; have HB := n1; clear n1)
    | (go_at_call 11; (with_reducible refine (O2.out _).mono ?_); rintro e w6 ⟨rfl, hb⟩; have n1 := Aside0.mk (HB.out.trans (hb.mono HB.out.size)); clear HB hb O2; have HB := n1; clear n1))
  have cM : ∀ d os, Calls Try.prog 16 #[.int .i64 32, .int .u8 0] (Go.Sort.grow (redrawn w6 d) os) fun e w'' => e = .returned (.string m) ∧ ∃ p : Regrown, w'' = Go.Sort.grow (redrawn w6 p.d) p.os := fun d os => Calls.regrown_of (M32.out _)
  refine wp_region_quiet_below (by kernel_rfl) (by kernel_rfl) ?_
  repeat (quiet_step (exact cM _ _))
  refine wpQuiet_nil ?_
  intro _ hw'
  obtain ⟨⟨dq, osq⟩, hw''⟩ := hw'
  subst hw''
  go_wp2
  go_ret
  exact ⟨rfl, HB.out.trans ((below_regrown w6 dq osq).mono HB.out.size)⟩
/-- What hamperlaw23.works tells. -/
def law23_works.f : Option Bool := some true
theorem law23_works.calls (r : Bool) (w : World) (h : law23_works.f = some r) : Calls Try.prog 9 #[] w fun e w' => e = .returned (.bool r) ∧ Below w.heap.size w w' := by
  obtain rfl := Option.some.inj h
  exact works_any w
end Go.Proofs.Ytdegeodegjmddaa.Given
