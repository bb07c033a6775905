/- The walk of hamperlaw07.ShaHmac: a digest by a key is made of digests alone. Conditions: none but the statement's own. -/
import Derived.Test.YtbafbpfpnfnikaaShaW
import Derived.Test.YtbafbpfpnfnikaaBuf
import Derived.Lib.QuietBelow
namespace Go.Proofs.Ytbafbpfpnfnikaa.Given
open Go.RowKit Go.Proofs.YtbafbpfpnfnikaaW.PrintWords Go.Proofs.YtbafbpfpnfnikaaW.PrintLast Go.Proofs.YtbafbpfpnfnikaaW.PrintMore
open Go.Proofs.Ytbafbpfpnfnikaa.Row Go.Proofs.Ytbafbpfpnfnikaa.Row.At
set_option maxRecDepth 100000
set_option linter.unusedVariables false
set_option linter.unusedSimpArgs false
theorem made64 (W : World) : At (W.alloc (.cells (madeCells #[.int .u8 0] 64) 5 (0, 0))) W.heap.size 5 (b8s (List.replicate 64 0)) := by
  have e : madeCells #[.int .u8 0] 64 = (b8s (List.replicate 64 0)).toArray := by
    have := toList_madeCells_one (.int .u8 0) 64
    rw [← Array.toArray_toList (xs := madeCells #[.int .u8 0] 64), this]
    rfl
  rw [e]
  exact At.new W _ _
/-- the row behind the copy -/
theorem copied (k : ByteArray) (c : UInt8) : (b8s (List.replicate 64 (0 : UInt8))).toArray.toList.take 0 ++ (b8s k.data.toList ++ (b8s (List.replicate 64 (0 : UInt8))).toArray.toList.drop (0 + (b8s k.data.toList).length)) = b8s (padN k c 0) := by
  have hl : k.data.toList.length = k.size := Array.length_toList
  have e : (b8s (List.replicate 64 (0 : UInt8))).toArray.toList = b8s (List.replicate 64 (0 : UInt8)) := rfl
  rw [e, List.take_zero, List.nil_append, b8s_length, Nat.zero_add, hl, padN, List.take_zero, List.nil_append, List.drop_zero]
  unfold b8s
  rw [List.map_append, ← List.map_drop, List.drop_replicate]
theorem copyK {P : Program} {w : World} {ops : Array Oper} {rest : List Oper} {o : Oper} {a : Act} {Q : Exit → Act → World → Prop} {g g0 : Nat} {kk : ByteArray} (c : UInt8) (h : At w g 5 (b8s (List.replicate 64 0))) (hk : Buf w g0 5 kk.data.toList) (hkz : kk.size ≤ 64) (hne : g0 ≠ g)
    (hgd : o.guard = none) (d s : Operand) (dT sT : TypeId) (cap : Nat)
    (ho : o.op = .call { callee := .builtin .copy, args := #[d, s], argTypes := #[dT, sT] }) (elem : TypeId) (hu : P.underlying dT = some (.slice elem)) (hsz : (P.info? elem).map (·.size) = some 1)
    (hd : a.eval d = .slice (some ⟨g, 0, none⟩) 64 64) (hs : a.eval s = .slice (some ⟨g0, 0, none⟩) kk.size cap)
    (k : ∀ w', At w' g 5 (b8s (padN kk c 0)) → (∀ g' t cs, At w g' t cs → g' ≠ g → At w' g' t cs) → (∀ g' t l, Buf w g' t l → g' ≠ g → Buf w' g' t l) → (∀ B w0, Below B w0 w → B ≤ g → Below B w0 w') → wpList P ops Q rest (a.put o.dst (goInt kk.size)) w') : wpList P ops Q (o :: rest) a w := by
  have hl : kk.data.toList.length = kk.size := Array.length_toList
  refine wpList_copy_own hgd d s dT sT ho elem hu hsz g 0 64 64 ⟨g0, 0, none⟩ kk.size cap hd hs (b8s (List.replicate 64 0)).toArray 5 h.heap (b8s kk.data.toList) (by rw [b8s_length, hl]; exact (Nat.min_eq_left hkz).symm) ?_ (by rw [b8s_length, hl]; simpa using hkz) (At.one8 _) ?_
  · intro j v hv
    have hj : j < kk.data.toList.length := by have := (List.getElem?_eq_some_iff.1 hv).1; rwa [b8s_length] at this
    rw [Addr.add_mid, Nat.zero_add, hk.cell8 j hj, ← hv, b8s_get _ _ hj]
  · rw [copied kk c, b8s_length, hl]
    refine k _ (h.setRow _) (fun g' t cs ha hn => ha.setRow_other _ _ hn) (fun g' t l hb hn => ?_) (fun B w0 hb hB => At.row_below hb hB _)
    obtain ⟨tail, fz, hh, hf⟩ := hb
    exact ⟨tail, fz, (Go.setRow_other w g g' _ hn).trans hh, hf⟩
theorem padN_all (k : ByteArray) (c : UInt8) (hk : k.size ≤ 64) : (⟨(padN k c 64).toArray⟩ : ByteArray) = padK k c := by
  have hl := padL_length k hk
  rw [padK, padN, List.take_of_length_le (by rw [List.length_map]; omega), List.drop_of_length_le (by omega), List.append_nil]
theorem conv_any (w : World) (g : Nat) (l : List UInt8) (hl : l.length = 64) (h : At w g 5 (b8s l)) (p : Regrown) :
    (convert 37 9 (.slice (some ⟨g, 0, none⟩) 64 64)).run Try.prog (Go.Sort.grow (redrawn w p.d) p.os) = .ok (.string ⟨l.toArray⟩) (Go.Sort.grow (redrawn w p.d) p.os) := by
  have := run_convert_bytes_back (P := Try.prog) (Go.Sort.grow (redrawn w p.d) p.os) 37 9 5 ⟨g, 0, none⟩ 64 l Try.underlying37 Try.underlying5 Try.underlying9 (fun j hj => by
    rw [Addr.add_mid, Nat.zero_add, cell_regrown (h.cell8 j hj)]
    simp [gb, List.getD_eq_getElem?_getD, hj])
  rw [hl] at this
  exact this
theorem x54 (a : UInt8) : bits .xor .u8 (a.toNat : Int) 54 = ((a ^^^ 54).toNat : Int) := u8x a 54
theorem x92 (a : UInt8) : bits .xor .u8 (a.toNat : Int) 92 = ((a ^^^ 92).toNat : Int) := u8x a 92
theorem hm_start (w WP : World) (kk : ByteArray) (C : Obj) (BW : World → ByteArray → World) (HMA : ∀ W : World, At (W.alloc C) W.heap.size 5 (b8s (List.replicate 64 0))) (HBW : ∀ W x, Below W.heap.size W (BW W x) ∧ Buf (BW W x) W.heap.size 5 x.data.toList) (hb : Below w.heap.size w WP) :
    At (((BW WP kk).alloc C).alloc C) (BW WP kk).heap.size 5 (b8s (List.replicate 64 0)) ∧ At (((BW WP kk).alloc C).alloc C) ((BW WP kk).heap.size + 1) 5 (b8s (List.replicate 64 0)) ∧ Buf (((BW WP kk).alloc C).alloc C) WP.heap.size 5 kk.data.toList ∧ Below w.heap.size w (((BW WP kk).alloc C).alloc C) ∧ WP.heap.size < (BW WP kk).heap.size ∧ w.heap.size ≤ WP.heap.size := by
  have h1 := (HBW WP kk).2.lt
  have h2 := (HBW WP kk).1
  refine ⟨(HMA _).alloc C, ?_, ?_, ?_, h1, hb.size⟩
  · have := HMA ((BW WP kk).alloc C)
    simpa using this
  · exact (((HBW WP kk).2.go ((Below.refl _ _).alloc (Nat.le_refl _) C))).go ((Below.refl _ _).alloc (Nat.le_refl _) C)
  · have h3 : w.heap.size ≤ (BW WP kk).heap.size := Nat.le_trans hb.size h2.size
    exact ((hb.trans (h2.mono hb.size)).alloc h3 C).alloc (by simp; omega) C
set_option maxHeartbeats 8000000 in
theorem ShaHmac_walk (a0 a1 : ByteArray) (w : World) (w0 : a0.size ≤ 140737488351232) (w1 : a1.size ≤ 140737488351232) :
    Calls Try.prog 6 #[.string a0, .string a1] w fun e w' => e = .returned (.bool true) ∧ Below w.heap.size w w' := by
  have HB : Aside0 (Below w.heap.size w w) := ⟨Below.refl _ _⟩
  clear w0 w1
  by_cases hk : 2000 < a0.size
  · have hk2 : (2000 : Int) < (a0.size : Int) := by omega
    clear hk
    go_enter Try.func6, Try.ntmps6
    go_wp2_with (go_at_call 22; (with_reducible refine (works_any _).mono ?_); rintro e w1 ⟨rfl, hb⟩; have n1 := Aside0.mk (HB.out.trans (hb.mono HB.out.size)); clear HB hb; have HB := n1; clear n1)
    go_ret
    exact ⟨rfl, HB.out⟩
  by_cases hs : 5000 < a1.size
  · have hk2 : ¬ ((2000 : Int) < (a0.size : Int)) := by omega
    have hs2 : (5000 : Int) < (a1.size : Int) := by omega
    clear hk hs
    go_enter Try.func6, Try.ntmps6
    go_wp2_with (go_at_call 22; (with_reducible refine (works_any _).mono ?_); rintro e w1 ⟨rfl, hb⟩; have n1 := Aside0.mk (HB.out.trans (hb.mono HB.out.size)); clear HB hb; have HB := n1; clear n1)
    go_ret
    exact ⟨rfl, HB.out⟩
  have hk2 : ¬ ((2000 : Int) < (a0.size : Int)) := by omega
  have hs2 : ¬ ((5000 : Int) < (a1.size : Int)) := by omega
  have HZ := Aside0.mk (And.intro hk hs)
  have hmk : ∀ W : World, (Instr.makeSlice 37 (.int .i64 64) (.int .i64 64)).run Try.prog W = .ok (.slice (some ⟨W.heap.size, 0, none⟩) 64 64) (W.alloc (.cells (madeCells #[.int .u8 0] 64) 5)) := print_make (P := Try.prog) 37 5 .u8 1 Try.underlying37 (by kernel_rfl) (by decide) 64 (by omega)
  obtain ⟨C, hC⟩ : ∃ C, C = Obj.cells (madeCells #[.int .u8 0] 64) 5 (0, 0) := ⟨_, rfl⟩
  have HMA : Aside0 (∀ W : World, At (W.alloc C) W.heap.size 5 (b8s (List.replicate 64 0))) := ⟨fun W => by rw [hC]; exact made64 W⟩
  rw [← hC] at hmk
  have hconv0 : ∀ W : World, (convert 9 37 (.string a0)).run Try.prog W = .ok (.slice (some ⟨W.heap.size, 0, none⟩) a0.size (grownCap W a0.size 0 5)) (Lib.bytesWorld W 5 a0) := fun W => Lib.run_convert_string_bytes W 9 37 5 a0 Try.underlying9 Try.underlying37 Try.underlying5
  obtain ⟨BW, hBW⟩ : ∃ BW : World → ByteArray → World, BW = fun W x => Lib.bytesWorld W 5 x := ⟨_, rfl⟩
  obtain ⟨CP, hCP⟩ : ∃ CP : World → Nat → Nat, CP = fun W n => grownCap W n 0 5 := ⟨_, rfl⟩
  have HBW : Aside0 (∀ W x, Below W.heap.size W (BW W x) ∧ Buf (BW W x) W.heap.size 5 x.data.toList) := ⟨fun W x => by rw [hBW]; exact ⟨Lib.bytesWorld_below W _ x, Buf.ofString W _ x⟩⟩
  have hconv : ∀ W : World, (convert 9 37 (.string a0)).run Try.prog W = .ok (.slice (some ⟨W.heap.size, 0, none⟩) a0.size (CP W a0.size)) (BW W a0) := fun W => by rw [hBW, hCP]; exact hconv0 W
  clear hk hs hC hconv0
  by_cases h64 : 64 < a0.size
  · have h64b : (64 : Int) < (a0.size : Int) := by omega
    obtain ⟨kk, hkk⟩ : ∃ kk, kk = shaW a0 := ⟨_, rfl⟩
    have hkz : kk.size = 32 := by rw [hkk]; exact shaW_size _
    have hconv2 : ∀ W : World, (convert 9 37 (.string kk)).run Try.prog W = .ok (.slice (some ⟨W.heap.size, 0, none⟩) kk.size (CP W kk.size)) (BW W kk) := fun W => by rw [hBW, hCP]; exact Lib.run_convert_string_bytes W 9 37 5 kk Try.underlying9 Try.underlying37 Try.underlying5
    have HKW : Aside0 (keyW a0 = kk) := ⟨by rw [keyW, if_pos h64, hkk]⟩
    have HSUM : Aside0 (∀ W, Calls Try.prog 19 #[.string a0] W fun e w' => e = .returned (.string kk) ∧ Below W.heap.size W w') := ⟨fun W => by rw [hkk]; exact shaSum0_any a0 (by have := HZ.out; omega) W⟩
    have HKZ : Aside0 (kk.size ≤ 64) := ⟨by omega⟩
    clear h64 hkk hkz hBW hCP
    go_enter Try.func6, Try.ntmps6
    go_wp2_with (first
      | (go_at_call 22; (with_reducible refine (works_any _).mono ?_); rintro e w1 ⟨rfl, hb⟩; have n1 := Aside0.mk (HB.out.trans (hb.mono HB.out.size)); clear HB hb; have HB := n1; clear n1)
      | (go_at_call 19; (with_reducible refine (HSUM.out _).mono ?_); rintro e w2 ⟨rfl, hb⟩; have n1 := Aside0.mk (HB.out.trans (((HBW.out _ a0).1.trans (hb.mono (HBW.out _ a0).1.size)).mono HB.out.size)); clear HB hb HSUM; have HB := n1; clear n1)
      | (have hst := hm_start w w2 kk C BW HMA.out HBW.out HB.out; have HW := Aside0.mk hst.2.2.2.2; refine copyK (kk := kk) 54 hst.1 hst.2.2.1 HKZ.out (by have := hst.2.2.2.2.1; omega) rfl (.tmp 32) (.tmp 33) 37 37 _ rfl 5 Try.underlying37 (by kernel_rfl) rfl rfl ?_; intro w5 k1 k2 k3 k4; have HIN := Aside0.mk k1; have HOUT := Aside0.mk (k2 _ _ _ hst.2.1 (by omega)); have HKB := Aside0.mk (k3 _ _ _ hst.2.2.1 (by have := hst.2.2.2.2.1; omega)); have n1 := Aside0.mk (k4 _ _ hst.2.2.2.1 (by have := hst.2.2.2.2; omega)); clear HB k1 k2 k3 k4 hst; have HB := n1; clear n1)
      | (refine copyK (kk := kk) 92 HOUT.out HKB.out HKZ.out (by have := HW.out; omega) rfl (.tmp 35) (.tmp 36) 37 37 _ rfl 5 Try.underlying37 (by kernel_rfl) rfl rfl ?_; intro w6 k1 k2 k3 k4; have n2 := Aside0.mk k1; have n3 := Aside0.mk (k2 _ _ _ HIN.out (by omega)); have n1 := Aside0.mk (k4 _ _ HB.out (by have := HW.out; omega)); clear HB HIN HOUT HKB k1 k2 k3 k4; have HB := n1; have HIN := n3; have HOUT := n2; clear n1 n2 n3))
    obtain ⟨g1, hg1⟩ : ∃ g1, g1 = (BW w2 kk).heap.size := ⟨_, rfl⟩
    rw [← hg1] at HIN HOUT HW ⊢
    clear hg1 HBW HMA hmk hconv hconv2
    have HIN0 := HIN; have HOUT0 := HOUT
    go_loopg [8] 64 (fun gg s8 wr => ∃ i : Nat, i + gg = 64 ∧ s8 = .int .i64 i ∧ At wr g1 5 (b8s (padN kk 54 i)) ∧ At wr (g1 + 1) 5 (b8s (padN kk 92 i)) ∧ Below w.heap.size w wr)
    case atStart => exact ⟨0, by omega, rfl, HIN.out, HOUT.out, HB.out⟩
    case round =>
      obtain ⟨i, hi, rfl, hia, hoa, hba⟩ := hrel
      clear HIN HOUT HB HIN0 HOUT0
      have HIN := Aside0.mk hia; have HOUT := Aside0.mk hoa; have HB := Aside0.mk hba
      clear hia hoa hba
      have HL1 := Aside0.mk (padN_length kk 54 i HKZ.out)
      have HL2 := Aside0.mk (padN_length kk 92 i HKZ.out)
      cases gk with
      | zero =>
        have hin : i = 64 := by omega
        subst hin
        have HPK1 : Aside0 (⟨(padN kk 54 64).toArray⟩ = padK kk 54) := ⟨padN_all kk 54 HKZ.out⟩
        have HPK2 : Aside0 (⟨(padN kk 92 64).toArray⟩ = padK kk 92) := ⟨padN_all kk 92 HKZ.out⟩
        obtain ⟨p54, hp54⟩ : ∃ p, p = padK kk 54 := ⟨_, rfl⟩
        obtain ⟨p92, hp92⟩ : ∃ p, p = padK kk 92 := ⟨_, rfl⟩
        obtain ⟨inn, hinn⟩ : ∃ p, p = shaW (p54 ++ a1) := ⟨_, rfl⟩
        obtain ⟨res, hres⟩ : ∃ p, p = shaW (p92 ++ inn) := ⟨_, rfl⟩
        have s54 : p54.size = 64 := by rw [hp54]; exact padK_size _ _ HKZ.out
        have s92 : p92.size = 64 := by rw [hp92]; exact padK_size _ _ HKZ.out
        have sin : inn.size = 32 := by rw [hinn]; exact shaW_size _
        have l1 : (9223372036854775807 < p54.size + a1.size) = False := eq_false (by have := HZ.out; omega)
        have l2 : (9223372036854775807 < p92.size + inn.size) = False := eq_false (by omega)
        have cv1 : ∀ p : Regrown, (convert 37 9 (.slice (some ⟨g1, 0, none⟩) 64 64)).run Try.prog (Go.Sort.grow (redrawn wr p.d) p.os) = .ok (.string p54) (Go.Sort.grow (redrawn wr p.d) p.os) := fun p => by rw [hp54, ← HPK1.out]; exact conv_any wr g1 _ HL1.out HIN.out p
        have cv2 : ∀ p : Regrown, (convert 37 9 (.slice (some ⟨g1 + 1, 0, none⟩) 64 64)).run Try.prog (Go.Sort.grow (redrawn wr p.d) p.os) = .ok (.string p92) (Go.Sort.grow (redrawn wr p.d) p.os) := fun p => by rw [hp92, ← HPK2.out]; exact conv_any wr (g1 + 1) _ HL2.out HOUT.out p
        have hH : ∀ d os, Calls Try.prog 20 #[.string a0, .string a1] (Go.Sort.grow (redrawn wr d) os) fun e w'' => e = .returned (.string res) ∧ ∃ p : Regrown, w'' = Go.Sort.grow (redrawn wr p.d) p.os := fun d os => Calls.regrown_of (by
          have := hmac_any a0 a1 (by have := HZ.out; omega) (by have := HZ.out; omega) (Go.Sort.grow (redrawn wr d) os)
          rw [hmacW, HKW.out, ← hp54, ← hp92, ← hinn, ← hres] at this
          exact this)
        have hS1 : ∀ d os, Calls Try.prog 19 #[.string (p54 ++ a1)] (Go.Sort.grow (redrawn wr d) os) fun e w'' => e = .returned (.string inn) ∧ ∃ p : Regrown, w'' = Go.Sort.grow (redrawn wr p.d) p.os := fun d os => Calls.regrown_of (by rw [hinn]; exact shaSum0_any _ (by rw [ByteArray.size_append]; have := HZ.out; omega) _)
        have hS2 : ∀ d os, Calls Try.prog 19 #[.string (p92 ++ inn)] (Go.Sort.grow (redrawn wr d) os) fun e w'' => e = .returned (.string res) ∧ ∃ p : Regrown, w'' = Go.Sort.grow (redrawn wr p.d) p.os := fun d os => Calls.regrown_of (by rw [hres]; exact shaSum0_any _ (by rw [ByteArray.size_append]; omega) _)
        clear hp54 hp92 hinn hres HPK1 HPK2 s54 s92 sin
        go_wp2
        refine wp_region_quiet_below (by kernel_rfl) (by kernel_rfl) ?_
        repeat (quiet_step (first | exact hH _ _ | exact hS1 _ _ | exact hS2 _ _))
        refine wpQuiet_nil ?_
        intro _ hw'
        obtain ⟨⟨dq, osq⟩, hw''⟩ := hw'
        subst hw''
        go_wp2
        go_ret
        exact ⟨rfl, HB.out.trans ((below_regrown wr dq osq).mono HB.out.size)⟩
      | succ gk =>
        have hlt : (i : Int) < 64 := by omega
        have hi64 : i < 64 := by omega
        have c1 := HIN.out.cell8 i (by rw [HL1.out]; exact hi64)
        have f1 := HIN.out.frozen i
        have c2 : ∀ v, (wr.setCell ⟨g1, i, none⟩ v).cell? ⟨g1 + 1, i, none⟩ = some (.int .u8 ((gb (padN kk 92 i) i).toNat : Int)) := fun v => (HOUT.out.other _ v (by dsimp; omega)).cell8 i (by rw [HL2.out]; exact hi64)
        have f2 : ∀ v, (wr.setCell ⟨g1, i, none⟩ v).frozen? ⟨g1 + 1, i, none⟩ = false := fun v => (HOUT.out.other _ v (by dsimp; omega)).frozen i
        clear hi64
        go_wp2
        rw [x54, x92]
        go_roundg gk
        case measure => omega
        case rel =>
          refine ⟨i + 1, by omega, rfl, ?_, ?_, (HB.out.setCell (by dsimp; have := HW.out; omega) _).setCell (by dsimp; have := HW.out; omega) _⟩
          · have h2 := (HIN.out.set8 i (gb (padN kk 54 i) i ^^^ 54)).other ⟨g1 + 1, i, none⟩ (.int .u8 ((gb (padN kk 92 i) i ^^^ 92).toNat : Int)) (by dsimp; omega)
            rw [padN_set kk 54 i HKZ.out (by omega)] at h2
            exact h2
          · have h2 := (HOUT.out.other ⟨g1, i, none⟩ (.int .u8 ((gb (padN kk 54 i) i ^^^ 54).toNat : Int)) (by dsimp; omega)).set8 i (gb (padN kk 92 i) i ^^^ 92)
            rw [padN_set kk 92 i HKZ.out (by omega)] at h2
            exact h2
  · have h64b : ¬ ((64 : Int) < (a0.size : Int)) := by omega
    have HKW : Aside0 (keyW a0 = a0) := ⟨by rw [keyW, if_neg h64]⟩
    have HKZ : Aside0 (a0.size ≤ 64) := ⟨by omega⟩
    clear h64 hBW hCP
    go_enter Try.func6, Try.ntmps6
    go_wp2_with (first
      | (go_at_call 22; (with_reducible refine (works_any _).mono ?_); rintro e w1 ⟨rfl, hb⟩; have n1 := Aside0.mk (HB.out.trans (hb.mono HB.out.size)); clear HB hb; have HB := n1; clear n1)
      | (have hst := hm_start w w1 a0 C BW HMA.out HBW.out HB.out; have HW := Aside0.mk hst.2.2.2.2; refine copyK (kk := a0) 54 hst.1 hst.2.2.1 HKZ.out (by have := hst.2.2.2.2.1; omega) rfl (.tmp 32) (.tmp 33) 37 37 _ rfl 5 Try.underlying37 (by kernel_rfl) rfl rfl ?_; intro w5 k1 k2 k3 k4; have HIN := Aside0.mk k1; have HOUT := Aside0.mk (k2 _ _ _ hst.2.1 (by omega)); have HKB := Aside0.mk (k3 _ _ _ hst.2.2.1 (by have := hst.2.2.2.2.1; omega)); have n1 := Aside0.mk (k4 _ _ hst.2.2.2.1 (by have := hst.2.2.2.2; omega)); clear HB k1 k2 k3 k4 hst; have HB := n1; clear n1)
      | (refine copyK (kk := a0) 92 HOUT.out HKB.out HKZ.out (by have := HW.out; omega) rfl (.tmp 35) (.tmp 36) 37 37 _ rfl 5 Try.underlying37 (by kernel_rfl) rfl rfl ?_; intro w6 k1 k2 k3 k4; have n2 := Aside0.mk k1; have n3 := Aside0.mk (k2 _ _ _ HIN.out (by omega)); have n1 := Aside0.mk (k4 _ _ HB.out (by have := HW.out; omega)); clear HB HIN HOUT HKB k1 k2 k3 k4; have HB := n1; have HIN := n3; have HOUT := n2; clear n1 n2 n3))
    obtain ⟨g1, hg1⟩ : ∃ g1, g1 = (BW w1 a0).heap.size := ⟨_, rfl⟩
    rw [← hg1] at HIN HOUT HW ⊢
    clear hg1 HBW HMA hmk hconv
    have HIN0 := HIN; have HOUT0 := HOUT
    go_loopg [8] 64 (fun gg s8 wr => ∃ i : Nat, i + gg = 64 ∧ s8 = .int .i64 i ∧ At wr g1 5 (b8s (padN a0 54 i)) ∧ At wr (g1 + 1) 5 (b8s (padN a0 92 i)) ∧ Below w.heap.size w wr)
    case atStart => exact ⟨0, by omega, rfl, HIN.out, HOUT.out, HB.out⟩
    case round =>
      obtain ⟨i, hi, rfl, hia, hoa, hba⟩ := hrel
      clear HIN HOUT HB HIN0 HOUT0
      have HIN := Aside0.mk hia; have HOUT := Aside0.mk hoa; have HB := Aside0.mk hba
      clear hia hoa hba
      have HL1 := Aside0.mk (padN_length a0 54 i HKZ.out)
      have HL2 := Aside0.mk (padN_length a0 92 i HKZ.out)
      cases gk with
      | zero =>
        have hin : i = 64 := by omega
        subst hin
        have HPK1 : Aside0 (⟨(padN a0 54 64).toArray⟩ = padK a0 54) := ⟨padN_all a0 54 HKZ.out⟩
        have HPK2 : Aside0 (⟨(padN a0 92 64).toArray⟩ = padK a0 92) := ⟨padN_all a0 92 HKZ.out⟩
        obtain ⟨p54, hp54⟩ : ∃ p, p = padK a0 54 := ⟨_, rfl⟩
        obtain ⟨p92, hp92⟩ : ∃ p, p = padK a0 92 := ⟨_, rfl⟩
        obtain ⟨inn, hinn⟩ : ∃ p, p = shaW (p54 ++ a1) := ⟨_, rfl⟩
        obtain ⟨res, hres⟩ : ∃ p, p = shaW (p92 ++ inn) := ⟨_, rfl⟩
        have s54 : p54.size = 64 := by rw [hp54]; exact padK_size _ _ HKZ.out
        have s92 : p92.size = 64 := by rw [hp92]; exact padK_size _ _ HKZ.out
        have sin : inn.size = 32 := by rw [hinn]; exact shaW_size _
        have l1 : (9223372036854775807 < p54.size + a1.size) = False := eq_false (by have := HZ.out; omega)
        have l2 : (9223372036854775807 < p92.size + inn.size) = False := eq_false (by omega)
        have cv1 : ∀ p : Regrown, (convert 37 9 (.slice (some ⟨g1, 0, none⟩) 64 64)).run Try.prog (Go.Sort.grow (redrawn wr p.d) p.os) = .ok (.string p54) (Go.Sort.grow (redrawn wr p.d) p.os) := fun p => by rw [hp54, ← HPK1.out]; exact conv_any wr g1 _ HL1.out HIN.out p
        have cv2 : ∀ p : Regrown, (convert 37 9 (.slice (some ⟨g1 + 1, 0, none⟩) 64 64)).run Try.prog (Go.Sort.grow (redrawn wr p.d) p.os) = .ok (.string p92) (Go.Sort.grow (redrawn wr p.d) p.os) := fun p => by rw [hp92, ← HPK2.out]; exact conv_any wr (g1 + 1) _ HL2.out HOUT.out p
        have hH : ∀ d os, Calls Try.prog 20 #[.string a0, .string a1] (Go.Sort.grow (redrawn wr d) os) fun e w'' => e = .returned (.string res) ∧ ∃ p : Regrown, w'' = Go.Sort.grow (redrawn wr p.d) p.os := fun d os => Calls.regrown_of (by
          have := hmac_any a0 a1 (by have := HZ.out; omega) (by have := HZ.out; omega) (Go.Sort.grow (redrawn wr d) os)
          rw [hmacW, HKW.out, ← hp54, ← hp92, ← hinn, ← hres] at this
          exact this)
        have hS1 : ∀ d os, Calls Try.prog 19 #[.string (p54 ++ a1)] (Go.Sort.grow (redrawn wr d) os) fun e w'' => e = .returned (.string inn) ∧ ∃ p : Regrown, w'' = Go.Sort.grow (redrawn wr p.d) p.os := fun d os => Calls.regrown_of (by rw [hinn]; exact shaSum0_any _ (by rw [ByteArray.size_append]; have := HZ.out; omega) _)
        have hS2 : ∀ d os, Calls Try.prog 19 #[.string (p92 ++ inn)] (Go.Sort.grow (redrawn wr d) os) fun e w'' => e = .returned (.string res) ∧ ∃ p : Regrown, w'' = Go.Sort.grow (redrawn wr p.d) p.os := fun d os => Calls.regrown_of (by rw [hres]; exact shaSum0_any _ (by rw [ByteArray.size_append]; omega) _)
        clear hp54 hp92 hinn hres HPK1 HPK2 s54 s92 sin
        go_wp2
        refine wp_region_quiet_below (by kernel_rfl) (by kernel_rfl) ?_
        repeat (quiet_step (first | exact hH _ _ | exact hS1 _ _ | exact hS2 _ _))
        refine wpQuiet_nil ?_
        intro _ hw'
        obtain ⟨⟨dq, osq⟩, hw''⟩ := hw'
        subst hw''
        go_wp2
        go_ret
        exact ⟨rfl, HB.out.trans ((below_regrown wr dq osq).mono HB.out.size)⟩
      | succ gk =>
        have hlt : (i : Int) < 64 := by omega
        have hi64 : i < 64 := by omega
        have c1 := HIN.out.cell8 i (by rw [HL1.out]; exact hi64)
        have f1 := HIN.out.frozen i
        have c2 : ∀ v, (wr.setCell ⟨g1, i, none⟩ v).cell? ⟨g1 + 1, i, none⟩ = some (.int .u8 ((gb (padN a0 92 i) i).toNat : Int)) := fun v => (HOUT.out.other _ v (by dsimp; omega)).cell8 i (by rw [HL2.out]; exact hi64)
        have f2 : ∀ v, (wr.setCell ⟨g1, i, none⟩ v).frozen? ⟨g1 + 1, i, none⟩ = false := fun v => (HOUT.out.other _ v (by dsimp; omega)).frozen i
        clear hi64
        go_wp2
        rw [x54, x92]
        go_roundg gk
        case measure => omega
        case rel =>
          refine ⟨i + 1, by omega, rfl, ?_, ?_, (HB.out.setCell (by dsimp; have := HW.out; omega) _).setCell (by dsimp; have := HW.out; omega) _⟩
          · have h2 := (HIN.out.set8 i (gb (padN a0 54 i) i ^^^ 54)).other ⟨g1 + 1, i, none⟩ (.int .u8 ((gb (padN a0 92 i) i ^^^ 92).toNat : Int)) (by dsimp; omega)
            rw [padN_set a0 54 i HKZ.out (by omega)] at h2
            exact h2
          · have h2 := (HOUT.out.other ⟨g1, i, none⟩ (.int .u8 ((gb (padN a0 54 i) i ^^^ 54).toNat : Int)) (by dsimp; omega)).set8 i (gb (padN a0 92 i) i ^^^ 92)
            rw [padN_set a0 92 i HKZ.out (by omega)] at h2
            exact h2
end Go.Proofs.Ytbafbpfpnfnikaa.Given
