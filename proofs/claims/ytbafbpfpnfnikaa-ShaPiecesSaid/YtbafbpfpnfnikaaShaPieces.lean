/- The walk of hamperlaw07.ShaPieces: a digest of pieces is that of the whole. Conditions: none but the statement's own. -/
import Derived.Test.YtbafbpfpnfnikaaShaTwo
import Derived.Test.YtbafbpfpnfnikaaShaM
import Derived.Test.YtbafbpfpnfnikaaIn
namespace Go.Proofs.Ytbafbpfpnfnikaa.Given
open Go.RowKit Go.Proofs.YtbafbpfpnfnikaaW.PrintWords Go.Proofs.YtbafbpfpnfnikaaW.PrintLast Go.Proofs.YtbafbpfpnfnikaaW.PrintMore
open Go.Proofs.Ytbafbpfpnfnikaa.Row Go.Proofs.Ytbafbpfpnfnikaa.Row.At
set_option maxRecDepth 100000
set_option linter.unusedVariables false
set_option linter.unusedSimpArgs false
theorem ba_ext2 {a b : ByteArray} (h : a.data.toList = b.data.toList) : a = b := by
  cases a; cases b
  congr 1
  exact Array.toList_inj.1 h
theorem ext_list (s : ByteArray) (i j : Nat) : (s.extract i j).data.toList = (s.data.toList.take j).drop i := by
  rw [ByteArray.data_extract, Array.toList_extract, List.extract_eq_take_drop, List.drop_take]
theorem ext_split (s : ByteArray) (q k : Nat) : s.extract 0 q ++ (s.extract q s.size).extract 0 k = s.extract 0 (q + k) := by
  apply ba_ext2
  have h : s.data.toList.length = s.size := Array.length_toList
  rw [ByteArray.data_append, Array.toList_append, ext_list, ext_list, ext_list, ext_list, List.drop_zero, List.drop_zero, List.drop_zero, ← h, List.take_length, List.take_add]
theorem ext_rest (s : ByteArray) (q k : Nat) (hk : q + k ≤ s.size) : (s.extract q s.size).extract k (s.extract q s.size).size = s.extract (q + k) s.size := by
  apply ba_ext2
  have h : s.data.toList.length = s.size := Array.length_toList
  have h2 : (s.data.toList.drop q).length = s.size - q := by rw [List.length_drop, h]
  rw [ext_list, ext_list, ext_list, ByteArray.size_extract, ← h, List.take_length, List.drop_take]
  rw [List.take_of_length_le (by rw [List.length_drop, h2, h]; omega), List.drop_drop]
theorem ext_all (s : ByteArray) (q : Nat) : s.extract 0 q ++ s.extract q s.size = s := by
  apply ba_ext2
  have h : s.data.toList.length = s.size := Array.length_toList
  rw [ByteArray.data_append, Array.toList_append, ext_list, ext_list, List.drop_zero, ← h, List.take_length, List.take_append_drop]
theorem hmac_noughts (key x : ByteArray) (n : Nat) (h : key.size + n ≤ 64) : hmacW (key ++ manyW n 0) x = hmacW key x := by
  have hz : (key ++ manyW n 0).size = key.size + n := by rw [ByteArray.size_append, manyW_size]
  have e1 : keyW (key ++ manyW n 0) = key ++ manyW n 0 := by rw [keyW, if_neg (by omega)]
  have e2 : keyW key = key := by rw [keyW, if_neg (by omega)]
  have e3 : ∀ c, padK (key ++ manyW n 0) c = padK key c := fun c => by
    rw [padK, padK, hz]
    congr 3
    rw [ByteArray.data_append, Array.toList_append, List.append_assoc]
    congr 1
    simp only [manyW, List.replicate_append_replicate]
    congr 1
    omega
  rw [hmacW, hmacW, e1, e2, e3, e3]
theorem hmac_digest (key x : ByteArray) (h : 64 < key.size) : hmacW (shaW key) x = hmacW key x := by
  have e1 : keyW (shaW key) = shaW key := by rw [keyW, if_neg (by rw [shaW_size]; omega)]
  have e2 : keyW key = shaW key := by rw [keyW, if_pos h]
  rw [hmacW, hmacW, e1, e2]
set_option maxHeartbeats 8000000 in
theorem ShaPieces_walk (a0 : ByteArray) (u1 : Option Addr) (c1 : Nat) (a1 : List Int) (a2 : ByteArray) (a3 : Int) (w : World) (w0 : a0.size ≤ 140737488351232) (w1 : InI w u1 a1) (w2 : a2.size ≤ 140737488351232) (w3 : (Lit.int .i64 a3).wf = true) :
    Calls Try.prog 5 #[.string a0, .slice u1 a1.length c1, .string a2, .int .i64 a3] w fun e w' => e = .returned (.bool true) ∧ Below w.heap.size w w' := by
  have HB : Aside0 (Below w.heap.size w w) := ⟨Below.refl _ _⟩
  have HI := Aside0.mk w1
  clear w1
  by_cases hk1 : 20000 < a0.size
  · have hk2 : (20000 : Int) < (a0.size : Int) := by omega
    clear hk1
    go_enter Try.func5, Try.ntmps5
    go_wp2_with (go_at_call 22; (with_reducible refine (works_any _).mono ?_); rintro e w1 ⟨rfl, hb⟩; have n1 := Aside0.mk (HB.out.trans (hb.mono HB.out.size)); clear HB hb; have HB := n1; clear n1)
    go_ret
    exact ⟨rfl, HB.out⟩
  have hka : ¬ ((20000 : Int) < (a0.size : Int)) := by omega
  by_cases hk3 : 200 < a1.length
  · have hk2 : (200 : Int) < (a1.length : Int) := by omega
    clear hk1 hk3
    go_enter Try.func5, Try.ntmps5
    go_wp2_with (go_at_call 22; (with_reducible refine (works_any _).mono ?_); rintro e w1 ⟨rfl, hb⟩; have n1 := Aside0.mk (HB.out.trans (hb.mono HB.out.size)); clear HB hb; have HB := n1; clear n1)
    go_ret
    exact ⟨rfl, HB.out⟩
  have hkb : ¬ ((200 : Int) < (a1.length : Int)) := by omega
  by_cases hk4 : 20000 < a2.size
  · have hk2 : (20000 : Int) < (a2.size : Int) := by omega
    clear hk1 hk3 hk4
    go_enter Try.func5, Try.ntmps5
    go_wp2_with (go_at_call 22; (with_reducible refine (works_any _).mono ?_); rintro e w1 ⟨rfl, hb⟩; have n1 := Aside0.mk (HB.out.trans (hb.mono HB.out.size)); clear HB hb; have HB := n1; clear n1)
    go_ret
    exact ⟨rfl, HB.out⟩
  have hkc : ¬ ((20000 : Int) < (a2.size : Int)) := by omega
  have HZ := Aside0.mk (And.intro hk1 (And.intro hk3 hk4))
  clear hk1 hk3 hk4 w0 w2 w3
  go_enter Try.func5, Try.ntmps5
  go_wp2_with (first
    | (go_at_call 22; (with_reducible refine (works_any _).mono ?_); rintro e w1 ⟨rfl, hb⟩; have n1 := Aside0.mk (HB.out.trans (hb.mono HB.out.size)); clear HB hb; have HB := n1; clear n1)
    | (go_at_call 14; (with_reducible refine (new_ate _).mono ?_); rintro e w2 ⟨rfl, hn, hb⟩; have H1 := Aside0.mk (OneH.new hn hb HB.out); clear HB hn hb))
  obtain ⟨g, hg⟩ : ∃ g, g = w1.heap.size := ⟨_, rfl⟩
  rw [← hg] at H1 ⊢
  clear hg
  go_loopg [10, 11] a1.length (fun gg s10 s11 wr => ∃ i q : Nat, i + gg = a1.length ∧ s11 = .int .i64 i ∧ q ≤ a0.size ∧ s10 = .string (a0.extract q a0.size) ∧ OneH w g (a0.extract 0 q) wr)
  case atStart => exact ⟨0, 0, by omega, rfl, by omega, by rw [ByteArray.extract_zero_size], by have := H1.out; have e : a0.extract 0 0 = ⟨#[]⟩ := (by apply ba_ext2; simp); rw [e]; exact this⟩
  case round =>
    obtain ⟨i, q, hi, rfl, hq, rfl, hone⟩ := hrel
    clear H1
    have H1 := Aside0.mk hone
    clear hone
    cases gk with
    | zero =>
      have hin : i = a1.length := by omega
      subst hin
      have hlt : ¬ ((a1.length : Int) < (a1.length : Int)) := by omega
      have HR := Aside0.mk (ext_all a0 q)
      have B1 : Aside0 ((a0.extract 0 q).size + (a0.extract q a0.size).size ≤ 140737488355000) := ⟨by rw [← ByteArray.size_append, ext_all]; have := HZ.out; omega⟩
      by_cases h64 : 64 < a2.size
      · have h642 : (64 : Int) < (a2.size : Int) := by omega
        have H64 := Aside0.mk h64
        have C2 : Aside0 (∀ w, Calls Try.prog 20 #[.string (shaW a2), .string a0] w fun e w' => e = .returned (.string (hmacW a2 a0)) ∧ Below w.heap.size w w') := ⟨fun w => by rw [← hmac_digest a2 a0 h64]; exact hmac_any _ _ (by rw [shaW_size]; decide) (by have := HZ.out; omega) w⟩
        have C1 : Aside0 (∀ w, Calls Try.prog 20 #[.string a2, .string a0] w fun e w' => e = .returned (.string (hmacW a2 a0)) ∧ Below w.heap.size w w') := ⟨fun w => hmac_any _ _ (by have := HZ.out; omega) (by have := HZ.out; omega) w⟩
        clear h64 hq hi
        have hz32 : (shaW a0).size = 32 := shaW_size a0
        go_wp2_with (first
          | (go_at_call 16; (with_reducible refine (add_ate (a0.extract 0 q) (a0.extract q a0.size) B1.out _ _ H1.out.hg).mono ?_); rintro e w5 ⟨rfl, ha, hb⟩; rw [HR.out] at ha; have n1 := Aside0.mk (H1.out.add ha hb); clear H1 ha hb; have H1 := n1; clear n1)
          | (go_at_call 17; (with_reducible refine (sum_ate a0 (by have := HZ.out; omega) _ _ H1.out.hg).mono ?_); rintro e w7 ⟨rfl, hb⟩; have n1 := Aside0.mk (H1.out.go hb); clear H1 hb; have H1 := n1; clear n1)
          | (go_at_call 19; (first | (with_reducible refine (shaSum0_any a0 (by have := HZ.out; omega) _).mono ?_) | (with_reducible refine (shaSum0_any a2 (by have := HZ.out; omega) _).mono ?_)); rintro e w8 ⟨rfl, hb⟩; have n1 := Aside0.mk (H1.out.go hb); clear H1 hb; have H1 := n1; clear n1)
          | (go_at_call 20; (first | (with_reducible refine (C1.out _).mono ?_) | (with_reducible refine (C2.out _).mono ?_)); rintro e w9 ⟨rfl, hb⟩; have n1 := Aside0.mk (H1.out.go hb); clear H1 hb; have H1 := n1; clear n1))
        go_ret
        exact ⟨rfl, H1.out.bel⟩
      · have h642 : ¬ ((64 : Int) < (a2.size : Int)) := by omega
        have h643 : (a2.size : Int) ≤ 64 := by omega
        obtain ⟨z, hz, he⟩ : ∃ z : Nat, a2.size + z ≤ 64 ∧ wrap64 ((IntKind.u64.wrap a3).tmod (65 - (a2.size : Int))) = (z : Int) := by
          have h1 : 0 ≤ IntKind.u64.wrap a3 := by rw [IntKind.wrap_u64]; omega
          have h2 := Int.tmod_lt_of_pos (IntKind.u64.wrap a3) (b := 65 - (a2.size : Int)) (by omega)
          have h3 := Int.tmod_nonneg (65 - (a2.size : Int)) h1
          refine ⟨((IntKind.u64.wrap a3).tmod (65 - (a2.size : Int))).toNat, by omega, ?_⟩
          rw [wrap64_of_bounds (by omega) (by omega)]
          omega
        have HZZ := Aside0.mk hz
        obtain ⟨nn, hnn⟩ : ∃ x, x = manyW z 0 := ⟨_, rfl⟩
        have l1 : (9223372036854775807 < a2.size + nn.size) = False := eq_false (by rw [hnn, manyW_size]; omega)
        obtain ⟨res, hres⟩ : ∃ x, x = hmacW a2 a0 := ⟨_, rfl⟩
        have hM : Aside0 (∀ w, Calls Try.prog 23 #[.int .i64 z, .int .u8 0] w fun e w' => e = .returned (.string nn) ∧ Below w.heap.size w w') := ⟨fun w => by rw [hnn]; exact many_any z 0 (by omega) w⟩
        have hH1 : Aside0 (∀ w, Calls Try.prog 20 #[.string a2, .string a0] w fun e w' => e = .returned (.string res) ∧ Below w.heap.size w w') := ⟨fun w => by rw [hres]; exact hmac_any _ _ (by have := HZ.out; omega) (by have := HZ.out; omega) w⟩
        have hH2 : Aside0 (∀ w, Calls Try.prog 20 #[.string (a2 ++ nn), .string a0] w fun e w' => e = .returned (.string res) ∧ Below w.heap.size w w') := ⟨fun w => by rw [hres, ← hmac_noughts a2 a0 z hz, ← hnn]; exact hmac_any _ _ (by rw [ByteArray.size_append, hnn, manyW_size]; omega) (by have := HZ.out; omega) w⟩
        clear h64 hq hi hz hnn hres
        have hz32 : (shaW a0).size = 32 := shaW_size a0
        go_wp2_with (first
          | (go_at_call 16; (with_reducible refine (add_ate (a0.extract 0 q) (a0.extract q a0.size) B1.out _ _ H1.out.hg).mono ?_); rintro e w5 ⟨rfl, ha, hb⟩; rw [HR.out] at ha; have n1 := Aside0.mk (H1.out.add ha hb); clear H1 ha hb; have H1 := n1; clear n1)
          | (go_at_call 17; (with_reducible refine (sum_ate a0 (by have := HZ.out; omega) _ _ H1.out.hg).mono ?_); rintro e w7 ⟨rfl, hb⟩; have n1 := Aside0.mk (H1.out.go hb); clear H1 hb; have H1 := n1; clear n1)
          | (go_at_call 19; (with_reducible refine (shaSum0_any a0 (by have := HZ.out; omega) _).mono ?_); rintro e w8 ⟨rfl, hb⟩; have n1 := Aside0.mk (H1.out.go hb); clear H1 hb; have H1 := n1; clear n1))
        have cM : ∀ d os, Calls Try.prog 23 #[.int .i64 z, .int .u8 0] (Go.Sort.grow (redrawn w7 d) os) fun e w'' => e = .returned (.string nn) ∧ ∃ p : Regrown, w'' = Go.Sort.grow (redrawn w7 p.d) p.os := fun d os => Calls.regrown_of (hM.out _)
        have c1 : ∀ d os, Calls Try.prog 20 #[.string a2, .string a0] (Go.Sort.grow (redrawn w7 d) os) fun e w'' => e = .returned (.string res) ∧ ∃ p : Regrown, w'' = Go.Sort.grow (redrawn w7 p.d) p.os := fun d os => Calls.regrown_of (hH1.out _)
        have c2 : ∀ d os, Calls Try.prog 20 #[.string (a2 ++ nn), .string a0] (Go.Sort.grow (redrawn w7 d) os) fun e w'' => e = .returned (.string res) ∧ ∃ p : Regrown, w'' = Go.Sort.grow (redrawn w7 p.d) p.os := fun d os => Calls.regrown_of (hH2.out _)
        have hw1 : IntKind.i64.wrap (65 - (a2.size : Int)) = 65 - (a2.size : Int) := wrapi_of_bounds (by omega) (by omega)
        have hw4 : IntKind.i64.wrap ((IntKind.u64.wrap a3).tmod (65 - (a2.size : Int))) = (z : Int) := by
          rw [← he]
          have h1 : 0 ≤ IntKind.u64.wrap a3 := by rw [IntKind.wrap_u64]; omega
          have h2 := Int.tmod_lt_of_pos (IntKind.u64.wrap a3) (b := 65 - (a2.size : Int)) (by omega)
          have h3 := Int.tmod_nonneg (65 - (a2.size : Int)) h1
          rw [wrapi_of_bounds (by omega) (by omega), wrap64_of_bounds (by omega) (by omega)]
        have hw2 : IntKind.u64.wrap (65 - (a2.size : Int)) = 65 - (a2.size : Int) := by rw [IntKind.wrap_u64]; omega
        have hw3 : ((65 - (a2.size : Int)) = 0) = False := eq_false (by omega)
        refine wp_region_quiet_below (by kernel_rfl) (by kernel_rfl) ?_
        repeat (quiet_step (first | with_reducible exact c1 _ _ | with_reducible exact c2 _ _ | with_reducible exact cM _ _))
        refine wpQuiet_nil ?_
        intro _ hw'
        obtain ⟨⟨dq, osq⟩, hw''⟩ := hw'
        subst hw''
        go_wp2
        go_ret
        exact ⟨rfl, H1.out.bel.trans ((below_regrown w7 dq osq).mono H1.out.bel.size)⟩
    | succ gk =>
      have hlt : (i : Int) < (a1.length : Int) := by omega
      obtain ⟨n, hn⟩ : ∃ n, a1[i]? = some n := ⟨a1[i]'(by omega), List.getElem?_eq_getElem _⟩
      obtain ⟨x, rfl⟩ := HI.out.ex hn
      have hcell := HI.out.at_ H1.out.bel rfl hn
      have h0i : (0 : Int) ≤ (i : Int) := by omega
      obtain ⟨rest, hrest⟩ : ∃ r, r = a0.extract q a0.size := ⟨_, rfl⟩
      have hrs : rest.size = a0.size - q := by rw [hrest, ByteArray.size_extract]; omega
      rw [← hrest]
      obtain ⟨k, hkm, he⟩ : ∃ k : Nat, k ≤ rest.size ∧ wrap64 ((IntKind.u64.wrap n).tmod ((rest.size : Int) + 1)) = (k : Int) := by
        have h1 : 0 ≤ IntKind.u64.wrap n := by rw [IntKind.wrap_u64]; omega
        have h2 := Int.tmod_lt_of_pos (IntKind.u64.wrap n) (b := (rest.size : Int) + 1) (by omega)
        have h3 := Int.tmod_nonneg ((rest.size : Int) + 1) h1
        have := HZ.out
        refine ⟨((IntKind.u64.wrap n).tmod ((rest.size : Int) + 1)).toNat, by omega, ?_⟩
        rw [wrap64_of_bounds (by omega) (by omega)]
        omega
      have k0 : (0 : Int) ≤ (k : Int) := by omega
      have k1 : (k : Int) ≤ (rest.size : Int) := by omega
      have k2 : (rest.size : Int) ≤ 20000 := by have := HZ.out; omega
      have HR := Aside0.mk (And.intro hrest (And.intro hrs hkm))
      have HQ := Aside0.mk (And.intro hq hi)
      have B1 : Aside0 ((a0.extract 0 q).size + (rest.extract 0 k).size ≤ 140737488355000) := ⟨by rw [ByteArray.size_extract, ByteArray.size_extract]; omega⟩
      have E1 : Aside0 (a0.extract 0 q ++ rest.extract 0 k = a0.extract 0 (q + k)) := ⟨by rw [hrest]; exact ext_split a0 q k⟩
      have E2 : Aside0 (rest.extract k rest.size = a0.extract (q + k) a0.size) := ⟨by rw [hrest]; exact ext_rest a0 q k (by omega)⟩
      clear hrest hrs hkm hq hi
      go_wp2_with (go_at_call 16; (with_reducible refine (add_ate (a0.extract 0 q) (rest.extract 0 k) B1.out _ _ H1.out.hg).mono ?_); rintro e w5 ⟨rfl, ha, hb⟩; rw [E1.out] at ha; have n1 := Aside0.mk (H1.out.add ha hb); clear H1 ha hb; have H1 := n1; clear n1)
      have hq2 := HQ.out
      have hr2 := HR.out
      go_roundg gk
      case measure => omega
      case rel => exact ⟨i + 1, q + k, by omega, rfl, by omega, by rw [E2.out], H1.out⟩
end Go.Proofs.Ytbafbpfpnfnikaa.Given
