/- The contract of hamperref07.Sums at one text. Conditions: fewer than 2^47 bytes. The contract of hamperref07.Sum. Conditions: fewer than 2^47 bytes. -/
import Derived.Test.YtdegeodegjmddaaZSumQ
import Derived.Test.YtdegeodegjmddaaZOwnQ
import Derived.Test.YtdegeodegjmddaaZRowQ
import Derived.LoopN
import Derived.Great.BuildSlice
set_option linter.unusedVariables false
set_option linter.unusedSimpArgs false
namespace Go.Proofs.Ytdegeodegjmddaa.Given
open Go.RowKit Go.Proofs.YtdegeodegjmddaaW.PrintWords
open Go.Proofs.Ytdegeodegjmddaa.Row
set_option maxRecDepth 100000
set_option linter.unusedVariables false
set_option linter.unusedSimpArgs false
theorem wp_loop_two {P : Program} {Q : Exit → Act → World → Prop} {a : Act} {w : World} {c : Code} (h : ∀ K : Act → World → Prop, (∀ a' w', c.wp P (Exit.then (fun _ _ => False) Q) a' w' → K a' w') → c.wp P (Exit.then K Q) a w) : (Code.loop c).wp P Q a w :=
  wp_loop_rounds 2 (h _ fun _ _ q => q)
theorem oct0 (x : UInt32) : IntKind.u8.wrap (IntKind.u32.wrap ((x.toNat : Int) / 16777216)) = ((UInt8.ofNat (x.toNat / 2 ^ 24)).toNat : Int) := by
  have := x.toNat_lt
  rw [IntKind.wrap_u32, IntKind.wrap_u8, UInt8.toNat_ofNat']
  omega
theorem oct1 (x : UInt32) : IntKind.u8.wrap ((IntKind.u32.wrap ((x.toNat : Int) / 65536)).tmod 256) = ((UInt8.ofNat (x.toNat / 2 ^ 16)).toNat : Int) := by
  have := x.toNat_lt
  rw [IntKind.wrap_u32, IntKind.wrap_u8, UInt8.toNat_ofNat', Int.tmod_eq_emod_of_nonneg (by omega)]
  omega
theorem oct2 (x : UInt32) : IntKind.u8.wrap ((IntKind.u32.wrap ((x.toNat : Int) / 256)).tmod 256) = ((UInt8.ofNat (x.toNat / 2 ^ 8)).toNat : Int) := by
  have := x.toNat_lt
  rw [IntKind.wrap_u32, IntKind.wrap_u8, UInt8.toNat_ofNat', Int.tmod_eq_emod_of_nonneg (by omega)]
  omega
theorem oct3 (x : UInt32) : IntKind.u8.wrap ((x.toNat : Int).tmod 256) = ((UInt8.ofNat (x.toNat / 2 ^ 0)).toNat : Int) := by
  have := x.toNat_lt
  rw [IntKind.wrap_u8, UInt8.toNat_ofNat', Int.tmod_eq_emod_of_nonneg (by omega)]
  omega
theorem build8 {P : Program} {ops : Array Oper} {rest : List Oper} {o : Oper} {a : Act} {w : World} {Q : Exit → Act → World → Prop} (hg : o.guard = none) (t e : TypeId) (x0 x1 x2 x3 x4 x5 x6 x7 : Operand) (ho : o.op = .buildSlice t 8 #[(0, x0), (1, x1), (2, x2), (3, x3), (4, x4), (5, x5), (6, x6), (7, x7)])
    (d : Tmp) (hd : o.dst = some d) (q0 q1 q2 q3 q4 q5 q6 q7 : UInt32) (h0 : a.eval x0 = u32 q0) (h1 : a.eval x1 = u32 q1) (h2 : a.eval x2 = u32 q2) (h3 : a.eval x3 = u32 q3) (h4 : a.eval x4 = u32 q4) (h5 : a.eval x5 = u32 q5) (h6 : a.eval x6 = u32 q6) (h7 : a.eval x7 = u32 q7)
    (hu : P.underlying t = some (.slice e)) (hi : (P.info? e).map (fun i => (i.zero, i.size)) = some (some (.int .u32 0), 1))
    (h : wpList P ops Q rest (a.put (some d) (.slice (some ⟨w.heap.size, 0, none⟩) 8 8)) (w.alloc (.cells #[u32 q0, u32 q1, u32 q2, u32 q3, u32 q4, u32 q5, u32 q6, u32 q7] e (0, 0)))) : wpList P ops Q (o :: rest) a w := by
  cases hie : P.info? e with
  | none => simp [hie] at hi
  | some ie =>
    simp only [hie, Option.map_some, Option.some.injEq, Prod.mk.injEq] at hi
    obtain ⟨hz, hs⟩ := hi
    refine wpList_buildSlice hg t e 8 _ ho #[u32 q0, u32 q1, u32 q2, u32 q3, u32 q4, u32 q5, u32 q6, u32 q7] ie _ hu hie hz (by rw [hs]; decide) (by rw [hs]; decide) ?_ (by rw [hd]; exact h)
    rw [hs]
    simp only [List.map_toArray, List.map_cons, List.map_nil, h0, h1, h2, h3, h4, h5, h6, h7]
    kernel_rfl
theorem infoU32 : (Try.prog.info? 101).map (fun i => (i.zero, i.size)) = some (some (.int .u32 0), 1) := by kernel_rfl
/-- One text is handed back, in a row of the call's own. -/
structure OneText (w : World) (s : ByteArray) (e : Ending) (w' : World) : Prop where
  ex : ∃ g cap, e = .returned (.slice (some ⟨g, 0, none⟩) 1 cap) ∧ w'.cell? ⟨g, 0, none⟩ = some (.string s) ∧ Below w.heap.size w w'
set_option maxHeartbeats 100000000 in
theorem sums_one (x : ByteArray) (hx : x.size ≤ 140737488351232) (u : Option Addr) (c : Nat) (w : World) (hin : In w u [x]) :
    Calls Try.prog 77 #[.slice u 1 c] w fun e w' => OneText w (shaW x) e w' := by
  obtain ⟨a, rfl⟩ := hin.ex (i := 0) rfl
  have HIN := Aside0.mk hin
  have HX := Aside0.mk hx
  have HB := Aside0.mk (Below.refl w.heap.size w)
  clear hin hx
  go_enter Try.func77, Try.ntmps77
  go_wp2_with (go_at_call 82; (with_reducible refine (roots_any _).mono ?_); rintro e w1 ⟨gs, cs, gc, cc, rfl, h0, h1, hb⟩; have HSQ := Aside0.mk h0; have HCU := Aside0.mk h1; have n1 := Aside0.mk (HB.out.trans (hb.mono HB.out.size)); clear HB h0 h1 hb; have HB := n1; clear n1)
  refine wp_loop_two fun K0 hK0 => ?_
  have HK0 := Aside0.mk hK0
  clear hK0
  have hc0 := HIN.out.at_ HB.out rfl (i := 0) (s := x) rfl
  rw [Addr.add_zero'] at hc0
  have hconv := Lib.run_convert_string_bytes (P := Try.prog) w1 9 43 5 x Try.underlying9 Try.underlying43 Try.underlying5
  have HOW := Aside0.mk (Row.Own.ofString w1 5 x (Nat.le_refl _) (by unfold maxLen; have := HX.out; omega))
  have HBW := Aside0.mk (Lib.bytesWorld_below w1 5 x)
  obtain ⟨W1, hW1⟩ : ∃ W1, W1 = Lib.bytesWorld w1 5 x := ⟨_, rfl⟩
  obtain ⟨vc, hvc⟩ : ∃ vc, vc = grownCap w1 x.size 0 5 := ⟨_, rfl⟩
  rw [← hW1] at hconv HOW HBW
  rw [← hvc] at hconv HOW
  clear hW1 hvc
  have HL := Aside0.mk (show (b8s x.data.toList).length = x.size by rw [b8s_length]; exact Array.length_toList)
  obtain ⟨B1, hB1⟩ : ∃ B1, B1 = w1.heap.size := ⟨_, rfl⟩
  rw [← hB1] at hconv HOW HBW
  have HS1 : Aside0 (B1 ≤ W1.heap.size) := ⟨by have := HBW.out.size; omega⟩
  have HB1 := Aside0.mk (And.intro hB1 HB.out.size)
  clear hB1
  go_wp2_with ((with_reducible refine gate_builtin (b := .append) (xs := #[.tmp 38, .tmp 39]) rfl ?_); at_builtin; refine HOW.out.push8 HS1.out rfl _ _ rfl rfl rfl (by rw [HL.out]; have := HX.out; omega) ?_; intro v7 w2 h7 b7; have H7 := Aside0.mk h7; have n1 := Aside0.mk (HBW.out.trans b7); clear HOW HBW h7 b7; have HBW := n1; clear n1)
  have HP : Aside0 (padded x.data.toList = x.data.toList ++ [128] ++ List.replicate (zN x.size) 0 ++ bytesL (8 * x.size) 8) := ⟨by rw [padded, show x.data.toList.length = x.size from Array.length_toList]⟩
  obtain ⟨n, hn⟩ : ∃ n, n = x.size := ⟨_, rfl⟩
  obtain ⟨xl, hxl⟩ : ∃ l, l = x.data.toList := ⟨_, rfl⟩
  have HXL : Aside0 (xl.length = n) := ⟨by rw [hxl, hn]; exact Array.length_toList⟩
  have HN : Aside0 (n ≤ 140737488351232) := ⟨by rw [hn]; exact HX.out⟩
  rw [← hxl, ← hn] at HP
  have H7b : Aside0 (Row.Own w2 B1 5 v7 (b8s (xl ++ [128] ++ List.replicate 0 0))) := ⟨by have := H7.out; rw [hxl]; simpa [b8s, b8] using this⟩
  have HX2 := Aside0.mk (And.intro hn hxl)
  clear H7 hn hxl HL
  go_loopg [7] (zN n) (fun gg s7 wr => ∃ m : Nat, m + gg = zN n ∧ Row.Own wr B1 5 s7 (b8s (xl ++ [128] ++ List.replicate m 0)) ∧ Below B1 w1 wr)
  case atStart => exact ⟨0, by omega, H7b.out, HBW.out⟩
  case round =>
    obtain ⟨m, hm, h7, hb7⟩ := hrel
    clear H7b HBW
    have H7 := Aside0.mk h7
    have HBW := Aside0.mk hb7
    clear h7 hb7
    have HS1 : Aside0 (B1 ≤ wr.heap.size) := ⟨by have := HBW.out.size; have := HB1.out.1; omega⟩
    obtain ⟨L, hL⟩ : ∃ L, L = n + 1 + m := ⟨_, rfl⟩
    have hlen : (b8s (xl ++ [128] ++ List.replicate m 0)).length = L := by rw [b8s_length]; simp [HXL.out]; omega
    have HLL := Aside0.mk hlen
    obtain ⟨a7, c7, h7f⟩ := H7.out.forms hlen
    subst h7f
    have hz := zN_lt n
    cases gk with
    | zero =>
      have hmz : m = zN n := by omega
      subst hmz
      have hc : ((L : Int) % 64 != 56) = false := by
        have := zN_mod n
        rw [bne_eq_false_iff_eq]
        omega
      have HB2 := Aside0.mk (HB.out.trans (HBW.out.mono (by have := HB1.out; omega)))
      have hc0 := HIN.out.at_ HB2.out rfl (i := 0) (s := x) rfl
      rw [Addr.add_zero'] at hc0
      have hxn : x.size = n := HX2.out.1.symm
      have hnb : (n : Int) ≤ 140737488351232 := by have := HN.out; omega
      clear hm hL hlen hz
      go_wp2
      have HOL := Aside0.mk (show (b8s (xl ++ [128] ++ List.replicate (zN n) 0)).length = L from HLL.out)
      have HLb : Aside0 (L ≤ n + 100) := ⟨by have h1 := HLL.out; rw [b8s_length] at h1; simp [HXL.out] at h1; have := zN_lt n; omega⟩
      obtain ⟨P, hP⟩ : ∃ P, P = xl ++ [128] ++ List.replicate (zN n) 0 := ⟨_, rfl⟩
      rw [← hP] at H7 HOL HP
      have H7c : Aside0 (Row.Own wr B1 5 (.slice a7 L c7) (b8s (P ++ (bytesL (8 * n) 8).take 0))) := ⟨by have := H7.out; simpa using this⟩
      clear hP hc hc0 H7 hxn
      have HN0 := Aside0.mk hnb
      go_loopg [7, 9] 8 (fun gg s7 s9 wr => gg ≤ 8 ∧ s9 = .int .i64 ((gg : Int) - 1) ∧ Row.Own wr B1 5 s7 (b8s (P ++ (bytesL (8 * n) 8).take (8 - gg))) ∧ Below B1 w1 wr)
      case atStart => exact ⟨by omega, rfl, H7c.out, HBW.out⟩
      case round =>
        obtain ⟨hg8, rfl, h7, hb7⟩ := hrel
        clear H7c HBW HLL
        have H7 := Aside0.mk h7
        have HBW := Aside0.mk hb7
        clear h7 hb7
        have HS1 : Aside0 (B1 ≤ wr.heap.size) := ⟨by have := HBW.out.size; have := HB1.out.1; omega⟩
        obtain ⟨M, hM⟩ : ∃ M, M = L + (8 - gk) := ⟨_, rfl⟩
        have hlen : (b8s (P ++ (bytesL (8 * n) 8).take (8 - gk))).length = M := by have := HOL.out; rw [b8s_length] at this ⊢; simp [this, bytesL_length]; omega
        have HLL := Aside0.mk hlen
        have HML := Aside0.mk hM
        obtain ⟨a7, c7, h7f⟩ := H7.out.forms hlen
        subst h7f
        clear hlen hM
        cases gk with
        | zero =>
          clear hg8
          obtain ⟨B2, hB2⟩ : ∃ B2, B2 = wr.heap.size := ⟨_, rfl⟩
          have HB12 : Aside0 (B1 ≤ B2) := ⟨by rw [hB2]; exact HS1.out⟩
          have hcs : (8 : Int) ≤ (cs : Int) := by have := HSQ.out.cap_le; omega
          have HE0 := Aside0.mk (own_none wr 101 (Nat.le_of_eq hB2))
          have HSQ2 := Aside0.mk (HSQ.out.below HBW.out (Nat.le_of_eq HB1.out.1.symm))
          have HBE : Aside0 (B2 ≤ (wr.alloc (.cells #[] 101 (0, 0))).heap.size) := ⟨by simp; omega⟩
          have HB2b := Aside0.mk hB2
          clear hB2
          go_wp2_with ((with_reducible refine gate_builtin (b := .append) (xs := #[.tmp 68, .tmp 70]) rfl ?_); at_builtin; refine HE0.out.append32 HBE.out rfl _ _ rfl rfl ⟨gs, 0, none⟩ 8 cs (((u32s SQ32).drop 0).take 8) rfl (by rw [List.drop_zero, List.length_take, u32s, List.length_map, SQ32_length]; rfl) ((HSQ2.out.alloc _).part 0 8 (by rw [u32s, List.length_map, SQ32_length]; decide)) (fun u hu => u32s_one _ u (List.mem_of_mem_drop (List.mem_of_mem_take hu))) (by decide) ?_; intro v10 w4 h10 b10 _; have H10 := Aside0.mk h10; have H10B := Aside0.mk b10; clear h10 b10)
          obtain ⟨W2, hW2⟩ : ∃ W2, W2 = wr := ⟨_, rfl⟩
          subst hW2
          have HBs := Aside0.mk (((Below.refl B2 W2).alloc (Nat.le_of_eq HB2b.out) _).trans H10B.out)
          have h10 : Row.Own w4 B2 101 v10 (u32s H0) := by
            have := H10.out
            rw [List.nil_append, List.drop_zero, u32s, ← List.map_take, SQ32_take] at this
            exact this
          obtain ⟨g10, c10, h10f, hg10, _⟩ := h10.form (n := 8) rfl (by decide)
          subst h10f
          have e8 : (bytesL (8 * n) 8).take (8 - 0) = bytesL (8 * n) 8 := List.take_of_length_le (by rw [bytesL_length]; omega)
          rw [e8] at H7 HLL
          obtain ⟨PL, hPL⟩ : ∃ l, l = P ++ bytesL (8 * n) 8 := ⟨_, rfl⟩
          rw [← hPL] at H7 HLL HP
          have HPLl : Aside0 (PL.length = M) := ⟨by have := HLL.out; rwa [b8s_length] at this⟩
          have HPLm : Aside0 (M % 64 = 0) := ⟨by rw [← HPLl.out, ← HP.out]; exact padded_mod _⟩
          have HPLz : Aside0 (0 < M) := ⟨by have := HML.out; omega⟩
          obtain ⟨g7, c7b, h7f, hg7, hg7l⟩ := H7.out.form HLL.out HPLz.out
          simp only [Value.slice.injEq] at h7f
          obtain ⟨h7f, _, h7c⟩ := h7f
          subst h7f
          subst h7c
          obtain ⟨nb, hnb2⟩ : ∃ nb, nb = M / 64 := ⟨_, rfl⟩
          have HNB : Aside0 (M = 64 * nb ∧ nb ≤ 140737488355328) := ⟨by have := HPLm.out; have := HML.out; have := HLb.out; have := HN.out; omega⟩
          have H10c := Aside0.mk h10
          have HG7 := Aside0.mk (And.intro hg7 (And.intro hg7l (And.intro hg10 HB2b.out)))
          clear H10 H10B h10 e8 hPL hnb2 hg7 hg7l hg10 HE0 HBE hcs HSQ2
          go_loopg [11] nb (fun gg s11 wr => ∃ j : Nat, j + gg = nb ∧ s11 = .int .i64 ((64 * j : Nat) : Int) ∧ Row.Own wr B2 101 (.slice (some ⟨g10, 0, none⟩) 8 c10) (u32s (stR H0 PL j)) ∧ Below B2 W2 wr)
          case atStart => exact ⟨0, by omega, rfl, H10c.out, HBs.out⟩
          case round =>
            obtain ⟨j, hj, rfl, hs, hb⟩ := hrel
            clear H10c HBs
            have HS := Aside0.mk hs
            have HBs := Aside0.mk hb
            clear hs hb
            obtain ⟨q, hq⟩ : ∃ q, q = 64 * j := ⟨_, rfl⟩
            rw [← hq]
            have hnb3 := HNB.out
            cases gk with
            | zero =>
              --@BEGIN L3exit
              as_aux_lemma =>
                have hlt : ¬ ((q : Int) < (M : Int)) := by omega
                have hjn : M / 64 = j := by omega
                have HSH : Aside0 (shaW x = ⟨(outL (stR H0 PL j) 8).toArray⟩) := ⟨by rw [shaW_padded, outW_outL, ← HX2.out.2, HP.out, HPLl.out, hjn]⟩
                obtain ⟨sl, hsl⟩ : ∃ l, l = stR H0 PL j := ⟨_, rfl⟩
                have HSl : Aside0 (sl.length = 8) := ⟨by rw [hsl]; exact stR_length _ _ rfl _⟩
                rw [← hsl] at HS HSH
                obtain ⟨W5, hW5⟩ : ∃ W5, W5 = wr := ⟨_, rfl⟩
                subst hW5
                obtain ⟨B5, hB5⟩ : ∃ B5, B5 = W5.heap.size := ⟨_, rfl⟩
                have HB5e := Aside0.mk hB5
                have HBF : Aside0 (Below w.heap.size w W5 ∧ w.heap.size ≤ B5) := ⟨by
                  have h1 := HB.out.trans (HBW.out.mono (by have := HB1.out; omega))
                  have h2 := h1.trans (HBs.out.mono (by have := h1.size; have := HB2b.out; omega))
                  exact ⟨h2, by have := h2.size; omega⟩⟩
                clear hsl hjn hj hq hnb3 hB5
                go_wp2
                go_loopg [22, 23] 8 (fun gg s22 s23 wr => ∃ i : Nat, i + gg = 8 ∧ s23 = .int .i64 i ∧ Row.Own wr B5 5 s22 (b8s (outL sl i)) ∧ Below B5 W5 wr)
                case atStart => exact ⟨0, by omega, rfl, Row.Own.nil _ _ _, Below.refl _ _⟩
                case round =>
                  obtain ⟨i, hi, rfl, ho, hb⟩ := hrel
                  have HO := Aside0.mk ho
                  have HB6 := Aside0.mk hb
                  clear ho hb
                  cases gk with
                  | zero =>
                    --@BEGIN L7exit
                    as_aux_lemma =>
                      have hi8 : i = 8 := by omega
                      subst hi8
                      clear hi
                      have hl32 : (b8s (outL sl 8)).length = 32 := by rw [b8s_length, outL_length]
                      obtain ⟨g22, c22, h22f, hg22, _⟩ := HO.out.form hl32 (by decide)
                      subst h22f
                      have hconv : (convert 43 9 (.slice (some ⟨g22, 0, none⟩) 32 c22)).run Try.prog wr = .ok (.string (shaW x)) wr := by
                        have := run_convert_bytes_back (P := Try.prog) wr 43 9 5 ⟨g22, 0, none⟩ c22 (outL sl 8) Try.underlying43 Try.underlying5 Try.underlying9 (fun j hj => by
                          rw [Addr.add_mid, Nat.zero_add, HO.out.cell j _ (b8s_get _ j hj)]
                          simp [gb, List.getD_eq_getElem?_getD, hj])
                        rw [outL_length] at this
                        rw [HSH.out]
                        exact this
                      have HBE : Aside0 (Below w.heap.size w wr) := ⟨HBF.out.1.trans (HB6.out.mono HBF.out.2)⟩
                      have HBEs : Aside0 (w.heap.size ≤ wr.heap.size) := ⟨HBE.out.size⟩
                      have HON := Aside0.mk (Row.Own.nil wr w.heap.size 9)
                      clear hl32 hg22
                      go_wp2_with ((with_reducible refine gate_builtin (b := .append) (xs := #[.tmp 344, .tmp 347]) rfl ?_); at_builtin; refine HON.out.pushS HBEs.out rfl _ _ rfl rfl rfl (by simp) ?_; intro v5 w9 h9 b9; have H9 := Aside0.mk h9; have H9B := Aside0.mk (HBE.out.trans b9); clear h9 b9)
                      refine HK0.out _ _ ?_
                      have h9 : Row.Own w9 w.heap.size 9 v5 [.string (shaW x)] := H9.out
                      obtain ⟨g9, c9, h9f, _, _⟩ := h9.form (n := 1) rfl (by decide)
                      subst h9f
                      have H9C := Aside0.mk (h9.cell 0 _ rfl)
                      clear h9 H9 hconv
                      go_wp2
                      go_ret
                      exact ⟨⟨g9, c9, rfl, H9C.out, H9B.out⟩⟩
                      --@END L7exit
                  | succ gk5 =>
                    --@BEGIN L7succ
                    as_aux_lemma =>
                      have hi8 : (i : Int) < 8 := by omega
                      have hi8n : i < 8 := by omega
                      have HI := Aside0.mk hi
                      have HSw : Aside0 (Row.Own wr B2 101 (.slice (some ⟨g10, 0, none⟩) 8 c10) (u32s sl)) := ⟨HS.out.below HB6.out (Nat.le_of_eq HB5e.out.symm)⟩
                      have HSz : Aside0 (B5 ≤ wr.heap.size) := ⟨by have := HB6.out.size; have := HB5e.out; omega⟩
                      have k0 := HSw.out.cell i _ (u32s_get sl i (by rw [HSl.out]; exact hi8n))
                      clear hi hi8n
                      go_wp2
                      refine wp_region_early 27 u22 (by decide +kernel) (by decide +kernel) (fun _ _ _ h => h) (.inl ⟨rfl, fun _ => rfl⟩) ?_
                      simp only [List.take_succ_cons, List.take_zero, List.drop_succ_cons, List.drop_zero, Act.put, List.setIfInBounds_toArray, List.set_cons_zero, List.set_cons_succ, Nat.reduceSub]
                      repeat still_step
                      refine wpStill_nil ?_
                      change wpList _ _ _ _ _ wr.drew
                      simp only [oct0, oct1, oct2, oct3]
                      obtain ⟨y0, hy0⟩ : ∃ y, y = UInt8.ofNat ((gw sl i).toNat / 2 ^ 24) := ⟨_, rfl⟩
                      obtain ⟨y1, hy1⟩ : ∃ y, y = UInt8.ofNat ((gw sl i).toNat / 2 ^ 16) := ⟨_, rfl⟩
                      obtain ⟨y2, hy2⟩ : ∃ y, y = UInt8.ofNat ((gw sl i).toNat / 2 ^ 8) := ⟨_, rfl⟩
                      obtain ⟨y3, hy3⟩ : ∃ y, y = UInt8.ofNat ((gw sl i).toNat / 2 ^ 0) := ⟨_, rfl⟩
                      rw [← hy0, ← hy1, ← hy2, ← hy3]
                      have HY : Aside0 (bytesL (gw sl i).toNat 4 = [y0, y1, y2, y3]) := ⟨by rw [hy0, hy1, hy2, hy3]; rfl⟩
                      clear k0 hy0 hy1 hy2 hy3
                      have HOd : Aside0 (Row.Own wr.drew B5 5 u22 (b8s (outL sl i))) := ⟨HO.out.drew⟩
                      have HSd : Aside0 (B5 ≤ wr.drew.heap.size) := ⟨HSz.out⟩
                      have HLo : Aside0 ((b8s (outL sl i)).length + 4 ≤ 140737488355328) := ⟨by rw [b8s_length, outL_length]; have := HI.out; omega⟩
                      go_wp2_with ((with_reducible refine gate_builtin (b := .append) (xs := #[.tmp 315, .tmp 342]) rfl ?_); at_builtin; refine HOd.out.many8 (cs := [.int .u8 (y0.toNat : Int), .int .u8 (y1.toNat : Int), .int .u8 (y2.toNat : Int), .int .u8 (y3.toNat : Int)]) HSd.out (b8s_ones [y0, y1, y2, y3]) rfl _ _ rfl rfl rfl HLo.out ?_; intro v22 w9 h9 b9; have n1 := Aside0.mk h9; have n2 := Aside0.mk ((HB6.out.trans (Below.refl _ wr).drew).trans b9); clear HO HOd HB6 h9 b9; have HO := n1; have HB6 := n2; clear n1 n2)
                      go_roundg gk5
                      case measure => omega
                      case rel =>
                        refine ⟨i + 1, by have := HI.out; omega, rfl, ?_, HB6.out⟩
                        rw [outL_succ, HY.out, b8s, List.map_append]
                        exact HO.out
                      --@END L7succ
                --@END L3exit
            | succ gk0 =>
              --@BEGIN L3succ
              as_aux_lemma =>
                have hlt : (q : Int) < (M : Int) := by omega
                have HJ := Aside0.mk (And.intro hj hq)
                clear hj hq hnb3
                obtain ⟨W3, hW3⟩ : ∃ W3, W3 = wr := ⟨_, rfl⟩
                subst hW3
                obtain ⟨B3, hB3⟩ : ∃ B3, B3 = W3.heap.size := ⟨_, rfl⟩
                have HB3 : Aside0 (B3 = W3.heap.size ∧ B2 ≤ B3) := ⟨hB3, by have := HBs.out.size; have := HB2b.out; omega⟩
                have HA3 : Aside0 (Row.Own W3 B1 5 (.slice (some ⟨g7, 0, none⟩) M c7) (b8s PL)) := ⟨H7.out.below HBs.out (Nat.le_of_eq HB2b.out.symm)⟩
                have HC3 : Aside0 (Row.Own W3 w.heap.size 101 (.slice (some ⟨gc, 0, none⟩) 64 cc) (u32s KK)) := ⟨(HCU.out.below HBW.out (Nat.le_of_eq HB1.out.1.symm)).below HBs.out (Nat.le_of_eq HB2b.out.symm)⟩
                clear hB3
                go_wp2
                go_loopg [12, 13] 64 (fun gg s12 s13 wr => ∃ i : Nat, i + gg = 64 ∧ s13 = .int .i64 i ∧ Row.Own wr B3 101 s12 (u32s (refW (PL.drop q) i)) ∧ Below B3 W3 wr)
                case atStart => exact ⟨0, by omega, rfl, Row.Own.nil _ _ _, Below.refl _ _⟩
                case round =>
                  obtain ⟨i, hi, rfl, hw, hbw⟩ := hrel
                  have HW := Aside0.mk hw
                  have HBw := Aside0.mk hbw
                  clear hw hbw
                  cases gk with
                  | zero =>
                    --@BEGIN L4exit
                    as_aux_lemma =>
                      have hi64 : i = 64 := by omega
                      subst hi64
                      clear hi
                      obtain ⟨W4, hW4⟩ : ∃ W4, W4 = wr := ⟨_, rfl⟩
                      subst hW4
                      obtain ⟨B4, hB4⟩ : ∃ B4, B4 = W4.heap.size := ⟨_, rfl⟩
                      have HB4 : Aside0 (B4 = W4.heap.size ∧ B3 ≤ B4) := ⟨hB4, by have := HBw.out.size; have := HB3.out; omega⟩
                      have hlw : (u32s (refW (PL.drop q) 64)).length = 64 := by rw [u32s, List.length_map, refW_length]
                      obtain ⟨g12, c12, h12f, hg12, _⟩ := HW.out.form hlw (by decide)
                      subst h12f
                      obtain ⟨rl, hrl⟩ : ∃ l, l = refW (PL.drop q) 64 := ⟨_, rfl⟩
                      have HRL : Aside0 (rl = wRow (PL.drop q) 64) := ⟨by rw [hrl]; exact refW_64 _⟩
                      have HRl : Aside0 (rl.length = 64) := ⟨by rw [hrl]; exact refW_length _ _⟩
                      rw [← hrl] at HW
                      obtain ⟨sl, hsl⟩ : ∃ l, l = stR H0 PL j := ⟨_, rfl⟩
                      have HSL := Aside0.mk hsl
                      have HSl : Aside0 (sl.length = 8) := ⟨by rw [hsl]; exact stR_length _ _ rfl _⟩
                      rw [← hsl] at HS
                      have HS4 : Aside0 (Row.Own W4 B2 101 (.slice (some ⟨g10, 0, none⟩) 8 c10) (u32s sl)) := ⟨HS.out.below HBw.out (Nat.le_of_eq HB3.out.1.symm)⟩
                      have HC4 : Aside0 (Row.Own W4 w.heap.size 101 (.slice (some ⟨gc, 0, none⟩) 64 cc) (u32s KK)) := ⟨HC3.out.below HBw.out (Nat.le_of_eq HB3.out.1.symm)⟩
                      have HE4 := Aside0.mk (own_none W4 101 (Nat.le_of_eq hB4))
                      have HE4s : Aside0 (B4 ≤ (W4.alloc (.cells #[] 101 (0, 0))).heap.size) := ⟨by simp; omega⟩
                      clear hB4 hlw hrl hsl hlt
                      go_wp2_with ((with_reducible refine gate_builtin (b := .append) (xs := #[.tmp 178, .tmp 179]) rfl ?_); at_builtin; refine HE4.out.append32 HE4s.out rfl _ _ rfl rfl ⟨g10, 0, none⟩ 8 c10 (((u32s sl).drop 0).take 8) rfl (by rw [List.drop_zero, List.length_take, u32s, List.length_map, HSl.out]; rfl) ((HS4.out.alloc _).part 0 8 (by rw [u32s, List.length_map, HSl.out]; decide)) (fun u hu => u32s_one _ u (List.mem_of_mem_drop (List.mem_of_mem_take hu))) (by decide) ?_; intro v17 w6 h17 b17 _; have H17 := Aside0.mk h17; have H17B := Aside0.mk b17; clear h17 b17)
                      have h17 : Row.Own w6 B4 101 v17 (u32s (rnds rl sl 0)) := by
                        have := H17.out
                        rw [List.nil_append, List.drop_zero, List.take_of_length_le (by rw [u32s, List.length_map, HSl.out]; exact Nat.le_refl _)] at this
                        exact this
                      have HB6 := Aside0.mk (((Below.refl B4 W4).alloc (Nat.le_of_eq HB4.out.1) _).trans H17B.out)
                      have H17c := Aside0.mk h17
                      clear h17 H17 H17B HE4 HE4s
                      go_loopg [17, 18] 64 (fun gg s17 s18 wr => ∃ i : Nat, i + gg = 64 ∧ s18 = .int .i64 i ∧ Row.Own wr B4 101 s17 (u32s (rnds rl sl i)) ∧ Below B4 W4 wr)
                      case atStart => exact ⟨0, by omega, rfl, H17c.out, HB6.out⟩
                      case round =>
                        obtain ⟨i, hi, rfl, h17, hb17⟩ := hrel
                        clear H17c HB6
                        have HCC := Aside0.mk h17
                        have HB6 := Aside0.mk hb17
                        clear h17 hb17
                        have HQl : Aside0 ((rnds rl sl i).length = 8) := ⟨rnds_length _ _ HSl.out i⟩
                        obtain ⟨g17, c17, h17f, hg17, _⟩ := HCC.out.form (n := 8) (by rw [u32s, List.length_map, HQl.out]) (by decide)
                        subst h17f
                        cases gk with
                        | zero =>
                          --@BEGIN L5exit
                          as_aux_lemma =>
                            have hi64 : i = 64 := by omega
                            subst hi64
                            obtain ⟨ql, hql⟩ : ∃ l, l = rnds rl sl 64 := ⟨_, rfl⟩
                            rw [← hql] at HCC HQl
                            have HQL := Aside0.mk hql
                            obtain ⟨W5, hW5⟩ : ∃ W5, W5 = wr := ⟨_, rfl⟩
                            subst hW5
                            have HS5 : Aside0 (Row.Own W5 B2 101 (.slice (some ⟨g10, 0, none⟩) 8 c10) (u32s sl)) := ⟨HS4.out.below HB6.out (Nat.le_of_eq HB4.out.1.symm)⟩
                            have HB5 : Aside0 (Below B2 W2 W5) := ⟨(HBs.out.trans (HBw.out.mono HB3.out.2)).trans (HB6.out.mono (Nat.le_trans HB3.out.2 HB4.out.2))⟩
                            have HGG : Aside0 (g10 < g17 ∧ B2 ≤ g10) := ⟨by have h1 := HS4.out.lt g10 rfl; have h2 := HB4.out.1; omega⟩
                            clear hi hql hg17 hg12 HB6 HBw HS4
                            go_wp2
                            go_loopg [21] 8 (fun gg s21 wr => ∃ i : Nat, i + gg = 8 ∧ s21 = .int .i64 i ∧ Row.Own wr B2 101 (.slice (some ⟨g10, 0, none⟩) 8 c10) (u32s (addN sl ql i)) ∧ Row.Own wr B4 101 (.slice (some ⟨g17, 0, none⟩) 8 c17) (u32s ql) ∧ Below B2 W2 wr)
                            case atStart => exact ⟨0, by omega, rfl, HS5.out, HCC.out, HB5.out⟩
                            case round =>
                              obtain ⟨i, hi, rfl, hs, hq2, hb⟩ := hrel
                              clear HS5 HCC HB5
                              have HS5 := Aside0.mk hs
                              have HQ5 := Aside0.mk hq2
                              have HB5 := Aside0.mk hb
                              clear hs hq2 hb
                              cases gk with
                              | zero =>
                                --@BEGIN L6exit
                                as_aux_lemma =>
                                  have hi8 : i = 8 := by omega
                                  subst hi8
                                  have HEN : Aside0 (addN sl ql 8 = stR H0 PL (j + 1)) := ⟨by rw [addN_end _ _ HSl.out HQl.out, stR, ← HSL.out, go64S, HQL.out, HRL.out, HJ.out.2]⟩
                                  rw [HEN.out] at HS5
                                  have hq64 : (q : Int) ≤ 140737488356000 := by have h1 := HJ.out; have h2 := HNB.out; have h3 := HML.out; have h4 := HLb.out; have h5 := HN.out; omega
                                  clear hi HQ5
                                  go_wp2
                                  go_roundg gk0
                                  case measure => omega
                                  case rel => exact ⟨j + 1, by have := HJ.out.1; omega, by rw [show ((64 * (j + 1) : Nat) : Int) = (q : Int) + 64 by have := HJ.out.2; omega], HS5.out, HB5.out⟩
                                  --@END L6exit
                              | succ gk4 =>
                                --@BEGIN L6succ
                                as_aux_lemma =>
                                  have hi8 : (i : Int) < 8 := by omega
                                  have hi8n : i < 8 := by omega
                                  have HI8 := Aside0.mk hi8n
                                  have HI := Aside0.mk hi
                                  have k1 := HS5.out.cell i _ (u32s_get (addN sl ql i) i (by rw [addN_length _ _ _ HSl.out HQl.out]; exact hi8n))
                                  rw [addN_get _ _ _ HSl.out HQl.out hi8n] at k1
                                  have k2 := HQ5.out.cell i _ (u32s_get ql i (by rw [HQl.out]; exact hi8n))
                                  have f1 := HS5.out.frozen i (by rw [u32s, List.length_map, addN_length _ _ _ HSl.out HQl.out]; exact hi8n)
                                  clear hi hi8n
                                  go_wp2
                                  refine wp_region_still_tail 11 (by decide +kernel) (by decide +kernel) ?_
                                  simp only [List.take_succ_cons, List.take_zero, List.drop_succ_cons, List.drop_zero]
                                  iterate 11 still_step
                                  refine wpStill_nil ?_
                                  simp only [u32add]
                                  change wpList _ _ _ _ _ wr.drew
                                  have k1' : wr.drew.cell? { block := g10, off := i } = some (Value.int IntKind.u32 ↑(gw sl i).toNat) := k1
                                  have f1' : wr.drew.frozen? { block := g10, off := i } = false := f1
                                  clear k1 k2 f1
                                  go_wp2
                                  go_roundg gk4
                                  case measure => omega
                                  case rel =>
                                    refine ⟨i + 1, by have := HI.out; omega, rfl, ?_, (HQ5.out.other _ (by have := HGG.out; simp [Value.ownBlock]; omega)).drew, (HB5.out.setCell HGG.out.2 _).drew⟩
                                    have h2 := HS5.out.set i (by rw [u32s, List.length_map, addN_length _ _ _ HSl.out HQl.out]; exact HI8.out) (.int .u32 ((gw sl i + gw ql i).toNat : Int))
                                    rw [u32s_set, addN_set _ _ _ HSl.out HQl.out HI8.out] at h2
                                    exact h2.drew
                                  --@END L6succ
                            --@END L5exit
                        | succ gk3 =>
                          --@BEGIN L5succ
                          as_aux_lemma =>
                            have hi64 : (i : Int) < 64 := by omega
                            have hi64n : i < 64 := by omega
                            have HI5 := Aside0.mk hi
                            have HC5 : Aside0 (Row.Own wr w.heap.size 101 (.slice (some ⟨gc, 0, none⟩) 64 cc) (u32s KK)) := ⟨HC4.out.below HB6.out (Nat.le_of_eq HB4.out.1.symm)⟩
                            have HW5 : Aside0 (Row.Own wr B3 101 (.slice (some ⟨g12, 0, none⟩) 64 c12) (u32s rl)) := ⟨HW.out.below HB6.out (Nat.le_of_eq HB4.out.1.symm)⟩
                            obtain ⟨ql, hql⟩ : ∃ l, l = rnds rl sl i := ⟨_, rfl⟩
                            rw [← hql] at HCC HQl
                            have HQL := Aside0.mk hql
                            have k0 := HCC.out.cell 0 _ (u32s_get ql 0 (by rw [HQl.out]; decide))
                            have k1 := HCC.out.cell 1 _ (u32s_get ql 1 (by rw [HQl.out]; decide))
                            have k2 := HCC.out.cell 2 _ (u32s_get ql 2 (by rw [HQl.out]; decide))
                            have k3 := HCC.out.cell 3 _ (u32s_get ql 3 (by rw [HQl.out]; decide))
                            have k4 := HCC.out.cell 4 _ (u32s_get ql 4 (by rw [HQl.out]; decide))
                            have k5 := HCC.out.cell 5 _ (u32s_get ql 5 (by rw [HQl.out]; decide))
                            have k6 := HCC.out.cell 6 _ (u32s_get ql 6 (by rw [HQl.out]; decide))
                            have k7 := HCC.out.cell 7 _ (u32s_get ql 7 (by rw [HQl.out]; decide))
                            have kc := HC5.out.cell i _ (u32s_get KK i (by rw [KK_length]; exact hi64n))
                            have kw := HW5.out.cell i _ (u32s_get rl i (by rw [HRl.out]; exact hi64n))
                            have HG17 := Aside0.mk hg17
                            clear hi hql hg17 hg12 hi64n
                            go_wp2
                            refine wp_region_still_lit (by decide +kernel) (by decide +kernel) ?_
                            iterate 6 still_step
                            refine wpStill_step (fun K hK => ?_)
                            go_simp
                            with_reducible refine ⟨_, turn_6 _ _, hK _ ?_⟩
                            clear hK K
                            iterate 3 still_step
                            refine wpStill_step (fun K hK => ?_)
                            go_simp
                            with_reducible refine ⟨_, turn_11 _ _, hK _ ?_⟩
                            clear hK K
                            iterate 4 still_step
                            refine wpStill_step (fun K hK => ?_)
                            go_simp
                            with_reducible refine ⟨_, turn_25 _ _, hK _ ?_⟩
                            clear hK K
                            repeat still_step
                            refine wpStill_nil ?_
                            simp only [u32xor, u32and, u32not, u32add]
                            have hX : rndX (gw KK i) (gw rl i) ql = gw ql 7 + (rotr (gw ql 4) 6 ^^^ rotr (gw ql 4) 11 ^^^ rotr (gw ql 4) 25) + ((gw ql 4 &&& gw ql 5) ^^^ (~~~(gw ql 4) &&& gw ql 6)) + gw KK i + gw rl i := rfl
                            rw [← hX]
                            obtain ⟨X, hXX⟩ : ∃ X, X = rndX (gw KK i) (gw rl i) ql := ⟨_, rfl⟩
                            rw [← hXX]
                            clear hX
                            have HX := Aside0.mk hXX
                            clear hXX
                            --@BEGIN L5b
                            as_aux_lemma =>
                              change Exit.then _ _ _ _ (World.drew wr)
                              obtain ⟨wA, hwA⟩ : ∃ wA, wA = wr.drew := ⟨_, rfl⟩
                              have HCA : Aside0 (Row.Own wA B4 101 (.slice (some ⟨g17, 0, none⟩) 8 c17) (u32s ql)) := ⟨by rw [hwA]; exact HCC.out.drew⟩
                              have HBA : Aside0 (Below B4 W4 wA) := ⟨by rw [hwA]; exact HB6.out.trans (Below.refl _ wr).drew⟩
                              rw [← hwA]
                              clear k0 k1 k2 k3 k4 k5 k6 k7 kc kw hwA HCC HB6
                              have k0 := HCA.out.cell 0 _ (u32s_get ql 0 (by rw [HQl.out]; decide))
                              have k1 := HCA.out.cell 1 _ (u32s_get ql 1 (by rw [HQl.out]; decide))
                              have k2 := HCA.out.cell 2 _ (u32s_get ql 2 (by rw [HQl.out]; decide))
                              go_wp2
                              refine wp_region_still_lit (by decide +kernel) (by decide +kernel) ?_
                              iterate 3 still_step
                              refine wpStill_step (fun K hK => ?_)
                              go_simp
                              with_reducible refine ⟨_, turn_2 _ _, hK _ ?_⟩
                              clear hK K
                              iterate 3 still_step
                              refine wpStill_step (fun K hK => ?_)
                              go_simp
                              with_reducible refine ⟨_, turn_13 _ _, hK _ ?_⟩
                              clear hK K
                              iterate 4 still_step
                              refine wpStill_step (fun K hK => ?_)
                              go_simp
                              with_reducible refine ⟨_, turn_22 _ _, hK _ ?_⟩
                              clear hK K
                              repeat still_step
                              refine wpStill_nil ?_
                              simp only [u32xor, u32and, u32add]
                              have hY : rndY ql = (rotr (gw ql 0) 2 ^^^ rotr (gw ql 0) 13 ^^^ rotr (gw ql 0) 22) + ((gw ql 0 &&& gw ql 1) ^^^ (gw ql 0 &&& gw ql 2) ^^^ (gw ql 1 &&& gw ql 2)) := rfl
                              rw [← hY]
                              obtain ⟨Y, hYY⟩ : ∃ Y, Y = rndY ql := ⟨_, rfl⟩
                              rw [← hYY]
                              clear hY
                              have HY := Aside0.mk hYY
                              clear hYY
                              --@BEGIN L5c
                              as_aux_lemma =>
                                change Exit.then _ _ _ _ (World.drew wA)
                                obtain ⟨wB, hwB⟩ : ∃ wB, wB = wA.drew := ⟨_, rfl⟩
                                have HCB : Aside0 (Row.Own wB B4 101 (.slice (some ⟨g17, 0, none⟩) 8 c17) (u32s ql)) := ⟨by rw [hwB]; exact HCA.out.drew⟩
                                have HBB : Aside0 (Below B4 W4 wB) := ⟨by rw [hwB]; exact HBA.out.trans (Below.refl _ wA).drew⟩
                                have HSB : Aside0 (B4 ≤ wB.heap.size) := ⟨by have := HBB.out.size; have := HB4.out; omega⟩
                                rw [← hwB]
                                clear k0 k1 k2 hwB HCA HBA
                                have k0 := HCB.out.cell 0 _ (u32s_get ql 0 (by rw [HQl.out]; decide))
                                have k1 := HCB.out.cell 1 _ (u32s_get ql 1 (by rw [HQl.out]; decide))
                                have k2 := HCB.out.cell 2 _ (u32s_get ql 2 (by rw [HQl.out]; decide))
                                have k3 := HCB.out.cell 3 _ (u32s_get ql 3 (by rw [HQl.out]; decide))
                                have k4 := HCB.out.cell 4 _ (u32s_get ql 4 (by rw [HQl.out]; decide))
                                have k5 := HCB.out.cell 5 _ (u32s_get ql 5 (by rw [HQl.out]; decide))
                                have k6 := HCB.out.cell 6 _ (u32s_get ql 6 (by rw [HQl.out]; decide))
                                go_wp2
                                refine wp_region_still_tail 26 (by decide +kernel) (by decide +kernel) ?_
                                simp only [List.take_succ_cons, List.take_zero, List.drop_succ_cons, List.drop_zero]
                                iterate 26 still_step
                                refine wpStill_nil ?_
                                simp only [u32add]
                                obtain ⟨Z, hZ⟩ : ∃ Z, Z = X + Y := ⟨_, rfl⟩
                                obtain ⟨V, hV⟩ : ∃ V, V = gw ql 3 + X := ⟨_, rfl⟩
                                rw [← hZ, ← hV]
                                have HN : Aside0 (rnds rl sl (i + 1) = [Z, gw ql 0, gw ql 1, gw ql 2, V, gw ql 4, gw ql 5, gw ql 6]) := ⟨by rw [rnds, ← HQL.out, rnd, hZ, hV, HX.out, HY.out]⟩
                                change wpList _ _ _ _ _ wB.drew
                                clear k0 k1 k2 k3 k4 k5 k6 hZ hV
                                have HCN := Aside0.mk ((Row.Own.build wB (u32s [Z, gw ql 0, gw ql 1, gw ql 2, V, gw ql 4, gw ql 5, gw ql 6]) 101 HSB.out (by show 8 ≤ maxLen; decide)).drew)
                                refine build8 rfl 104 101 (.tmp 270) (.tmp 273) (.tmp 276) (.tmp 279) (.tmp 284) (.tmp 287) (.tmp 290) (.tmp 293) rfl 294 rfl Z (gw ql 0) (gw ql 1) (gw ql 2) V (gw ql 4) (gw ql 5) (gw ql 6) rfl rfl rfl rfl rfl rfl rfl rfl Try.underlying104 infoU32 ?_
                                go_wp2
                                go_roundg gk3
                                case measure => omega
                                case rel =>
                                  refine ⟨i + 1, by have := HI5.out; omega, rfl, ?_, (HBB.out.alloc HSB.out _).drew⟩
                                  rw [HN.out]
                                  exact HCN.out
                                --@END L5c
                                --@END L5b
                                --@END L5succ
                      --@END L4exit
                  | succ gk2 =>
                    have hi64 : (i : Int) < 64 := by omega
                    by_cases h16 : i < 16
                    ·
                      --@BEGIN L4lo
                      as_aux_lemma =>
                        have h16i : (i : Int) < 16 := by omega
                        have hq1 : (q : Int) + 4 * (i : Int) + 3 < 9223372036854775807 := by have := HNB.out; have := HJ.out; have := HML.out; have := HLb.out; have := HN.out; omega
                        obtain ⟨p, hp⟩ : ∃ p : Nat, p = q + 4 * i := ⟨_, rfl⟩
                        have HPI : Aside0 ((q : Int) + 4 * (i : Int) = (p : Int) ∧ p = q + 4 * i ∧ p + 3 < M) := ⟨by have := HNB.out; have := HJ.out; omega⟩
                        have HAw : Aside0 (Row.Own wr B1 5 (.slice (some ⟨g7, 0, none⟩) M c7) (b8s PL)) := ⟨HA3.out.below HBw.out (Nat.le_of_eq HB3.out.1.symm)⟩
                        have HSw : Aside0 (B3 ≤ wr.heap.size) := ⟨by have := HBw.out.size; have := HB3.out; omega⟩
                        have HHI := Aside0.mk hi
                        clear hp hi
                        go_wp2
                        rw [HPI.out.1]
                        clear hq1 hlt hi64 h16i
                        have k0 := HAw.out.cell p _ (b8s_get PL p (by rw [HPLl.out]; have := HPI.out; omega))
                        have k1 := HAw.out.cell (p + 1) _ (b8s_get PL (p + 1) (by rw [HPLl.out]; have := HPI.out; omega))
                        have k2 := HAw.out.cell (p + 2) _ (b8s_get PL (p + 2) (by rw [HPLl.out]; have := HPI.out; omega))
                        have k3 := HAw.out.cell (p + 3) _ (b8s_get PL (p + 3) (by rw [HPLl.out]; have := HPI.out; omega))
                        have b0 : (p : Int) < (M : Int) := by have := HPI.out; omega
                        have b1 : (p : Int) + 1 < (M : Int) := by have := HPI.out; omega
                        have b2 : (p : Int) + 2 < (M : Int) := by have := HPI.out; omega
                        have b3 : (p : Int) + 3 < (M : Int) := by have := HPI.out; omega
                        have n0 : (0 : Int) ≤ (p : Int) := by omega
                        have n1 : (0 : Int) ≤ (p : Int) + 1 := by omega
                        have n2 : (0 : Int) ≤ (p : Int) + 2 := by omega
                        have n3 : (0 : Int) ≤ (p : Int) + 3 := by omega
                        have HMM : (M : Int) ≤ 140737488355500 := by have := HML.out; have := HLb.out; have := HN.out; omega
                        have w1' : IntKind.i64.wrap ((p : Int) + 1) = (p : Int) + 1 := wrapi_of_bounds (by omega) (by omega)
                        have w2' : IntKind.i64.wrap ((p : Int) + 2) = (p : Int) + 2 := wrapi_of_bounds (by omega) (by omega)
                        have w3' : IntKind.i64.wrap ((p : Int) + 3) = (p : Int) + 3 := wrapi_of_bounds (by omega) (by omega)
                        have t2 : ((p : Int) + 2).toNat = p + 2 := by omega
                        have t3 : ((p : Int) + 3).toNat = p + 3 := by omega
                        clear HMM
                        refine wp_region_early 30 u12 (by decide +kernel) (by decide +kernel) (fun _ _ _ h => h) (.inl ⟨rfl, fun _ => rfl⟩) ?_
                        simp only [List.take_succ_cons, List.take_zero, List.drop_succ_cons, List.drop_zero, Act.put, List.setIfInBounds_toArray, List.set_cons_zero, List.set_cons_succ, Nat.reduceSub]
                        repeat still_step
                        refine wpStill_nil ?_
                        change wpList _ _ _ _ _ wr.drew
                        clear k0 k1 k2 k3 b0 b1 b2 b3 n0 n1 n2 n3 w1' w2' w3' t2 t3
                        have HWd : Aside0 (Row.Own wr.drew B3 101 u12 (u32s (refW (PL.drop q) i))) := ⟨HW.out.drew⟩
                        have HSd : Aside0 (B3 ≤ wr.drew.heap.size) := ⟨HSw.out⟩
                        have HLw : Aside0 ((u32s (refW (PL.drop q) i)).length = i) := ⟨by rw [u32s, List.length_map, refW_length]⟩
                        go_wp2_with ((with_reducible refine gate_builtin (b := .append) (xs := #[.tmp 88, .tmp 118]) rfl ?_); at_builtin; refine HWd.out.push32 HSd.out rfl _ _ rfl rfl rfl (by rw [HLw.out]; have := HHI.out; omega) ?_; intro v12 w5 h12 b12; have n2 := Aside0.mk h12; have n1 := Aside0.mk ((HBw.out.trans (Below.refl _ wr).drew).trans b12); clear HW HWd HBw h12 b12; have HW := n2; have HBw := n1; clear n1 n2)
                        go_roundg gk2
                        case measure => omega
                        case rel =>
                          refine ⟨i + 1, by have := HHI.out; omega, rfl, ?_, HBw.out⟩
                          have := HW.out
                          rw [word_cells PL q i p HPI.out.2.1] at this
                          rw [refW, if_pos h16, u32s, List.map_append]
                          exact this
                        --@END L4lo
                    ·
                      --@BEGIN L4hi
                      as_aux_lemma =>
                        have h16i : ¬ ((i : Int) < 16) := by omega
                        have hlw : (u32s (refW (PL.drop q) i)).length = i := by rw [u32s, List.length_map, refW_length]
                        have HLw := Aside0.mk hlw
                        have HRl := Aside0.mk (refW_length (PL.drop q) i)
                        obtain ⟨g12, c12, h12f, hg12, _⟩ := HW.out.form hlw (by omega)
                        subst h12f
                        have HG12 := Aside0.mk hg12
                        have HHI := Aside0.mk (And.intro hi h16)
                        obtain ⟨wl, hwl⟩ : ∃ l, l = refW (PL.drop q) i := ⟨_, rfl⟩
                        have HWL := Aside0.mk hwl
                        rw [← hwl] at HW HRl HLw
                        have HSw : Aside0 (B3 ≤ wr.heap.size) := ⟨by have := HBw.out.size; have := HB3.out; omega⟩
                        clear hwl hlw hg12 hlt
                        obtain ⟨a15, ha15⟩ : ∃ a : Nat, a + 15 = i := ⟨i - 15, by omega⟩
                        have d15 : (i : Int) - 15 = (a15 : Int) := by omega
                        have e15 : IntKind.i64.wrap (a15 : Int) = (a15 : Int) := wrapi_of_bounds (by omega) (by omega)
                        have l15 : (a15 : Int) < (i : Int) := by omega
                        have n15 : (0 : Int) ≤ (a15 : Int) := by omega
                        obtain ⟨a2, ha2⟩ : ∃ a : Nat, a + 2 = i := ⟨i - 2, by omega⟩
                        have d2 : (i : Int) - 2 = (a2 : Int) := by omega
                        have e2 : IntKind.i64.wrap (a2 : Int) = (a2 : Int) := wrapi_of_bounds (by omega) (by omega)
                        have l2 : (a2 : Int) < (i : Int) := by omega
                        have n2 : (0 : Int) ≤ (a2 : Int) := by omega
                        have k15 := HW.out.cell a15 _ (u32s_get wl a15 (by rw [HRl.out]; omega))
                        have k2 := HW.out.cell a2 _ (u32s_get wl a2 (by rw [HRl.out]; omega))
                        have HA := Aside0.mk (And.intro ha15 ha2)
                        clear hi ha15 ha2
                        go_wp2
                        refine wp_region_still_lit (by decide +kernel) (by decide +kernel) ?_
                        iterate 5 still_step
                        refine wpStill_step (fun K hK => ?_)
                        go_simp
                        with_reducible refine ⟨_, turn_7 _ _, hK _ ?_⟩
                        clear hK K
                        iterate 5 still_step
                        refine wpStill_step (fun K hK => ?_)
                        go_simp
                        with_reducible refine ⟨_, turn_18 _ _, hK _ ?_⟩
                        clear hK K
                        repeat still_step
                        refine wpStill_nil ?_
                        rw [shr3, u32xor, u32xor]
                        have hs15 : s0 (gw wl a15) = rotr (gw wl a15) 7 ^^^ rotr (gw wl a15) 18 ^^^ (gw wl a15 >>> 3) := rfl
                        rw [← hs15]
                        clear hs15
                        obtain ⟨X15, hX15⟩ : ∃ X, X = s0 (gw wl a15) := ⟨_, rfl⟩
                        rw [← hX15]
                        have HX15 := Aside0.mk hX15
                        clear hX15
                        as_aux_lemma =>
                          change Exit.then _ _ _ _ (World.drew wr)
                          obtain ⟨wA, hwA⟩ : ∃ wA, wA = wr.drew := ⟨_, rfl⟩
                          have k2A : wA.cell? ⟨g12, a2, none⟩ = some (.int .u32 ((gw wl a2).toNat : Int)) := by rw [hwA]; exact k2
                          have HWA : Aside0 (Row.Own wA B3 101 (.slice (some ⟨g12, 0, none⟩) i c12) (u32s wl)) := ⟨by rw [hwA]; exact HW.out.drew⟩
                          have HBA : Aside0 (Below B3 W3 wA) := ⟨by rw [hwA]; exact HBw.out.trans (Below.refl _ wr).drew⟩
                          rw [← hwA]
                          clear k2 k15 hwA HW HBw
                          go_wp2
                          refine wp_region_still_lit (by decide +kernel) (by decide +kernel) ?_
                          iterate 5 still_step
                          refine wpStill_step (fun K hK => ?_)
                          go_simp
                          with_reducible refine ⟨_, turn_17 _ _, hK _ ?_⟩
                          clear hK K
                          iterate 5 still_step
                          refine wpStill_step (fun K hK => ?_)
                          go_simp
                          with_reducible refine ⟨_, turn_19 _ _, hK _ ?_⟩
                          clear hK K
                          repeat still_step
                          refine wpStill_nil ?_
                          rw [shr10, u32xor, u32xor]
                          have hs16 : s1 (gw wl a2) = rotr (gw wl a2) 17 ^^^ rotr (gw wl a2) 19 ^^^ (gw wl a2 >>> 10) := rfl
                          rw [← hs16]
                          clear hs16
                          obtain ⟨X16, hX16⟩ : ∃ X, X = s1 (gw wl a2) := ⟨_, rfl⟩
                          rw [← hX16]
                          have HX16 := Aside0.mk hX16
                          clear hX16
                          as_aux_lemma =>
                            change Exit.then _ _ _ _ (World.drew wA)
                            obtain ⟨wB, hwB⟩ : ∃ wB, wB = wA.drew := ⟨_, rfl⟩
                            have HWB : Aside0 (Row.Own wB B3 101 (.slice (some ⟨g12, 0, none⟩) i c12) (u32s wl)) := ⟨by rw [hwB]; exact HWA.out.drew⟩
                            have HBB : Aside0 (Below B3 W3 wB) := ⟨by rw [hwB]; exact HBA.out.trans (Below.refl _ wA).drew⟩
                            have HSB : Aside0 (B3 ≤ wB.heap.size) := ⟨by have := HBB.out.size; have := HB3.out; omega⟩
                            rw [← hwB]
                            clear k2A hwB HWA HBA d15 e15 l15 n15 d2 e2 l2 n2
                            obtain ⟨a16, ha16⟩ : ∃ a : Nat, a + 16 = i := ⟨i - 16, by have := HHI.out; omega⟩
                            have d16 : (i : Int) - 16 = (a16 : Int) := by omega
                            have e16 : IntKind.i64.wrap (a16 : Int) = (a16 : Int) := wrapi_of_bounds (by omega) (by have := HHI.out; omega)
                            have l16 : (a16 : Int) < (i : Int) := by omega
                            have n16 : (0 : Int) ≤ (a16 : Int) := by omega
                            obtain ⟨a7, ha7⟩ : ∃ a : Nat, a + 7 = i := ⟨i - 7, by have := HHI.out; omega⟩
                            have d7 : (i : Int) - 7 = (a7 : Int) := by omega
                            have e7 : IntKind.i64.wrap (a7 : Int) = (a7 : Int) := wrapi_of_bounds (by omega) (by have := HHI.out; omega)
                            have l7 : (a7 : Int) < (i : Int) := by omega
                            have n7 : (0 : Int) ≤ (a7 : Int) := by omega
                            have k16 := HWB.out.cell a16 _ (u32s_get wl a16 (by rw [HRl.out]; omega))
                            have k7 := HWB.out.cell a7 _ (u32s_get wl a7 (by rw [HRl.out]; omega))
                            have HA2 := Aside0.mk (And.intro ha16 ha7)
                            clear ha16 ha7
                            go_wp2
                            refine wp_region_early 16 (.slice (some ⟨g12, 0, none⟩) i c12) (by decide +kernel) (by decide +kernel) (fun _ _ _ h => h) (.inl ⟨rfl, fun _ => rfl⟩) ?_
                            simp only [List.take_succ_cons, List.take_zero, List.drop_succ_cons, List.drop_zero, Act.put, List.setIfInBounds_toArray, List.set_cons_zero, List.set_cons_succ, Nat.reduceSub]
                            repeat still_step
                            refine wpStill_nil ?_
                            change wpList _ _ _ _ _ wB.drew
                            simp only [u32add]
                            clear k16 k7 d16 e16 l16 n16 d7 e7 l7 n7
                            have HWd : Aside0 (Row.Own wB.drew B3 101 (.slice (some ⟨g12, 0, none⟩) i c12) (u32s wl)) := ⟨HWB.out.drew⟩
                            have HSd : Aside0 (B3 ≤ wB.drew.heap.size) := ⟨HSB.out⟩
                            go_wp2_with ((with_reducible refine gate_builtin (b := .append) (xs := #[.tmp 160, .tmp 176]) rfl ?_); at_builtin; refine HWd.out.push32 HSd.out rfl _ _ rfl rfl rfl (by rw [HLw.out]; have := HHI.out; omega) ?_; intro v12 w5 h12 b12; have n2 := Aside0.mk h12; have n1 := Aside0.mk ((HBB.out.trans (Below.refl _ wB).drew).trans b12); clear HWB HWd HBB h12 b12; have HW := n2; have HBw := n1; clear n1 n2)
                            go_roundg gk2
                            case measure => omega
                            case rel =>
                              refine ⟨i + 1, by have := HHI.out; omega, rfl, ?_, HBw.out⟩
                              have := HW.out
                              rw [refW, if_neg h16, ← HWL.out, u32s, List.map_append]
                              have e : (((gw wl a16).toNat : Int) + (X15.toNat : Int) + ((gw wl a7).toNat : Int) + (X16.toNat : Int)) % 4294967296 = ((wNext wl i).toNat : Int) := by
                                have h1 := HA.out
                                have h2 := HA2.out
                                rw [wNext, show i - 16 = a16 by omega, show i - 7 = a7 by omega, show i - 15 = a15 by omega, show i - 2 = a2 by omega, ← HX15.out, ← HX16.out, UInt32.toNat_add, UInt32.toNat_add, UInt32.toNat_add]
                                omega
                              rw [e] at this
                              exact this
                            --@END L4hi
                --@END L3succ
        | succ gk =>
          have q1 : ((gk + 1 : Nat) : Int) - 1 = (gk : Int) := by omega
          rw [q1]
          have q2 : (0 : Int) ≤ (gk : Int) := by omega
          have HBY : Aside0 ((n : Int) * 8 / 2 ^ (8 * gk) % 256 = ((UInt8.ofNat (8 * n / 2 ^ (8 * gk))).toNat : Int)) := ⟨by have := byte_ofS (8 * n) gk; rw [Int.natCast_mul, Int.mul_comm] at this; exact this⟩
          have hw8 : wrap64 (8 * (gk : Int)) = 8 * (gk : Int) := wrap64_of_bounds (by omega) (by omega)
          have hg8b : gk < 8 := by omega
          have HMLe : Aside0 (M + 1 ≤ 140737488355328) := ⟨by have := HML.out; have := HLb.out; have := HN.out; omega⟩
          clear hg8
          go_wp2_with ((with_reducible refine gate_builtin (b := .append) (xs := #[.tmp 59, .tmp 66]) rfl ?_); at_builtin; rw [HBY.out]; refine H7.out.push8 HS1.out rfl _ _ rfl rfl rfl (by rw [HLL.out]; exact HMLe.out) ?_; intro v8 w3 h7 b7; have n0 := Aside0.mk h7; have n1 := Aside0.mk (HBW.out.trans b7); clear H7 HBW h7 b7; have HBW := n1; have H7 := n0; clear n0 n1)
          go_roundg gk
          case measure => omega
          case rel =>
            refine ⟨by omega, rfl, ?_, HBW.out⟩
            have := H7.out
            rw [bytesL_take (8 * n) 8 gk (by omega), ← List.append_assoc]
            simpa [b8s, b8] using this
    | succ gk =>
      have hc : ((L : Int) % 64 != 56) = true := by
        have := zN_least n m (by omega)
        rw [bne_iff_ne]
        omega
      have HLN := Aside0.mk (And.intro hL (And.intro hz hm))
      clear hm hL hlen hz
      go_wp2_with ((with_reducible refine gate_builtin (b := .append) (xs := #[.tmp 45, .tmp 46]) rfl ?_); at_builtin; refine H7.out.push8 HS1.out rfl _ _ rfl rfl rfl (by rw [HLL.out]; have := HN.out; have := HLN.out; omega) ?_; intro v8 w3 h7 b7; have n0 := Aside0.mk h7; have n1 := Aside0.mk (HBW.out.trans b7); clear H7 HBW h7 b7; have HBW := n1; have H7 := n0; clear n0 n1)
      have hln := HLN.out
      go_roundg gk
      case measure => omega
      case rel => exact ⟨m + 1, by omega, by have := H7.out; rw [List.replicate_succ', ← List.append_assoc]; simpa [b8s, b8] using this, HBW.out⟩
end Go.Proofs.Ytdegeodegjmddaa.Given

namespace Go.Proofs.Ytdegeodegjmddaa.Given
open Go.RowKit Go.Proofs.YtdegeodegjmddaaW.PrintWords
open Go.Proofs.Ytdegeodegjmddaa.Row
set_option maxRecDepth 100000
set_option linter.unusedVariables false
set_option linter.unusedSimpArgs false
theorem refSum_any (x : ByteArray) (hx : x.size ≤ 140737488351232) (w : World) :
    Calls Try.prog 70 #[.string x] w fun e w' => e = .returned (.string (shaW x)) ∧ Below w.heap.size w w' := by
  have HX := Aside0.mk hx
  have HI := Aside0.mk (in_one w x hx)
  have HB : Aside0 (Below w.heap.size w (w.alloc (.cells #[.string x] 9 (0, 0)))) := ⟨(Below.refl _ w).alloc (Nat.le_refl _) _⟩
  clear hx
  go_enter Try.func70, Try.ntmps70
  go_wp2_with (go_at_call 77; (with_reducible refine (sums_one x HX.out _ _ _ HI.out).mono ?_); rintro e w1 ⟨⟨g, cap, rfl, hc, hb⟩⟩; have n1 := Aside0.mk (HB.out.trans (hb.mono HB.out.size)); clear HB hb; have HB := n1; clear n1)
  go_ret
  exact ⟨rfl, HB.out⟩
/-- What hamperref07.Sum tells. -/
def ref07_Sum.f (a0 : ByteArray) : Option ByteArray := if a0.size ≤ 140737488351232 then some (shaW a0) else none
theorem ref07_Sum.calls (a0 r : ByteArray) (w : World) (h : ref07_Sum.f a0 = some r) : Calls Try.prog 70 #[.string a0] w fun e w' => e = .returned (.string r) ∧ Below w.heap.size w w' := by
  unfold ref07_Sum.f at h
  split at h
  · rename_i hd
    obtain rfl := Option.some.inj h
    exact refSum_any a0 hd w
  · cases h
end Go.Proofs.Ytdegeodegjmddaa.Given
