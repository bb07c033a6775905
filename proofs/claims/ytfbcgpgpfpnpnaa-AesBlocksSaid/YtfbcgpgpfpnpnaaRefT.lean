/- The contracts of hamperref09.turned, StandIn and table. Conditions: none. -/
import Derived.Test.YtfbcgpgpfpnpnaaRefB
import Derived.Test.YtfbcgpgpfpnpnaaAesQ
import Derived.Test.YtfbcgpgpfpnpnaaOwn2
namespace Go.Proofs.Ytfbcgpgpfpnpnaa.Given
open Go.RowKit Go.Proofs.YtfbcgpgpfpnpnaaW.PrintWords Go.Proofs.YtfbcgpgpfpnpnaaW.PrintLast Go.Proofs.YtfbcgpgpfpnpnaaW.PrintMore
open Go.Proofs.Ytfbcgpgpfpnpnaa.Row Go.Proofs.Ytfbcgpgpfpnpnaa.Aes Go.Proofs.Ytfbcgpgpfpnpnaa.Row.At
set_option maxRecDepth 100000
set_option linter.unusedVariables false
set_option linter.unusedSimpArgs false
theorem rot1_all : ∀ n : Nat, n < 256 → bits .or .u8 ((n : Int) * 2 % 256) ((n : Int) / 128) = ((rotl (UInt8.ofNat n) 1).toNat : Int) := by decide +kernel
theorem rot2_all : ∀ n : Nat, n < 256 → bits .or .u8 ((n : Int) * 4 % 256) ((n : Int) / 64) = ((rotl (UInt8.ofNat n) 2).toNat : Int) := by decide +kernel
theorem rot3_all : ∀ n : Nat, n < 256 → bits .or .u8 ((n : Int) * 8 % 256) ((n : Int) / 32) = ((rotl (UInt8.ofNat n) 3).toNat : Int) := by decide +kernel
theorem rot4_all : ∀ n : Nat, n < 256 → bits .or .u8 ((n : Int) * 16 % 256) ((n : Int) / 16) = ((rotl (UInt8.ofNat n) 4).toNat : Int) := by decide +kernel
theorem turned_1 (x : UInt8) (w : World) : Calls Try.prog 57 #[.int .u8 (x.toNat : Int), .int .u32 1] w fun e w' => e = .returned (.int .u8 ((rotl x 1).toNat : Int)) ∧ w' = w := by
  have h := rot1_all x.toNat x.toNat_lt
  rw [UInt8.ofNat_toNat] at h
  have H := Aside0.mk h
  clear h
  go_enter Try.func57, Try.ntmps57
  go_wp2
  go_ret
  exact ⟨by rw [← H.out]; rfl, rfl⟩
theorem turned_2 (x : UInt8) (w : World) : Calls Try.prog 57 #[.int .u8 (x.toNat : Int), .int .u32 2] w fun e w' => e = .returned (.int .u8 ((rotl x 2).toNat : Int)) ∧ w' = w := by
  have h := rot2_all x.toNat x.toNat_lt
  rw [UInt8.ofNat_toNat] at h
  have H := Aside0.mk h
  clear h
  go_enter Try.func57, Try.ntmps57
  go_wp2
  go_ret
  exact ⟨by rw [← H.out]; rfl, rfl⟩
theorem turned_3 (x : UInt8) (w : World) : Calls Try.prog 57 #[.int .u8 (x.toNat : Int), .int .u32 3] w fun e w' => e = .returned (.int .u8 ((rotl x 3).toNat : Int)) ∧ w' = w := by
  have h := rot3_all x.toNat x.toNat_lt
  rw [UInt8.ofNat_toNat] at h
  have H := Aside0.mk h
  clear h
  go_enter Try.func57, Try.ntmps57
  go_wp2
  go_ret
  exact ⟨by rw [← H.out]; rfl, rfl⟩
theorem turned_4 (x : UInt8) (w : World) : Calls Try.prog 57 #[.int .u8 (x.toNat : Int), .int .u32 4] w fun e w' => e = .returned (.int .u8 ((rotl x 4).toNat : Int)) ∧ w' = w := by
  have h := rot4_all x.toNat x.toNat_lt
  rw [UInt8.ofNat_toNat] at h
  have H := Aside0.mk h
  clear h
  go_enter Try.func57, Try.ntmps57
  go_wp2
  go_ret
  exact ⟨by rw [← H.out]; rfl, rfl⟩
/-- the last number below x whose product with a is 1 -/
def invM (a : Nat) : Nat → Nat
  | 0 => 0
  | x + 1 => if mulN a x = 1 then x else invM a x
theorem invM_lt (a : Nat) : ∀ x, x ≤ 256 → invM a x < 256
  | 0, _ => by simp [invM]
  | x + 1, h => by
    rw [invM]
    split
    · omega
    · exact invM_lt a x (by omega)
def invU (a : UInt8) : UInt8 := UInt8.ofNat (invM a.toNat 256)
theorem standIn_any (a : UInt8) (w : World) : Calls Try.prog 54 #[.int .u8 (a.toNat : Int)] w fun e w' => e = .returned (.int .u8 ((standIn (invU a)).toNat : Int)) ∧ w' = w := by
  have HQ : Aside0 (((invM a.toNat 256 : Nat) : Int) = ((invU a).toNat : Int)) := ⟨by
    rw [invU, UInt8.toNat_ofNat']
    have := invM_lt a.toNat 256 (Nat.le_refl _)
    omega⟩
  have HS : Aside0 (((standIn (invU a)).toNat : Int) = bits .xor .u8 (bits .xor .u8 (bits .xor .u8 (bits .xor .u8 (bits .xor .u8 ((invU a).toNat : Int) ((rotl (invU a) 1).toNat : Int)) ((rotl (invU a) 2).toNat : Int)) ((rotl (invU a) 3).toNat : Int)) ((rotl (invU a) 4).toNat : Int)) 99) := ⟨by
    rw [show (99 : Int) = ((99 : UInt8).toNat : Int) from rfl, u8x, u8x, u8x, u8x, u8x]
    rfl⟩
  obtain ⟨A, hA⟩ : ∃ A, A = a.toNat := ⟨_, rfl⟩
  have ha : A < 256 := by rw [hA]; exact a.toNat_lt
  have HA := Aside0.mk ha
  rw [← hA] at HQ ⊢
  obtain ⟨q, hq⟩ : ∃ q, q = invU a := ⟨_, rfl⟩
  rw [← hq] at HQ HS ⊢
  have HI0 : Aside0 (invM A 1 = 0) := ⟨by rw [invM]; split <;> simp [invM]⟩
  clear hA ha hq
  go_enter Try.func54, Try.ntmps54
  go_wp2
  go_loopg [3, 4] 255 (fun gg s3 s4 wr => ∃ x : Nat, 1 ≤ x ∧ x + gg = 256 ∧ s4 = .int .i64 x ∧ s3 = .int .u8 (invM A x : Nat) ∧ w = wr)
  case atStart => exact ⟨1, by omega, by omega, rfl, by rw [HI0.out]; rfl, rfl⟩
  case round =>
    obtain ⟨x, hx1, hx, rfl, rfl, rfl⟩ := hrel
    cases gk with
    | zero =>
      have hx2 : x = 256 := by omega
      subst hx2
      rw [HQ.out]
      clear hx hx1
      go_wp2_with (go_at_call 57; (first | (with_reducible refine (turned_1 _ _).mono ?_) | (with_reducible refine (turned_2 _ _).mono ?_) | (with_reducible refine (turned_3 _ _).mono ?_) | (with_reducible refine (turned_4 _ _).mono ?_)); rintro e w' ⟨rfl, rfl⟩)
      go_ret
      exact ⟨by rw [HS.out]; rfl, rfl⟩
    | succ gk1 =>
      have hlt : (x : Int) < 256 := by omega
      have h0x : (0 : Int) ≤ (x : Int) := by omega
      obtain ⟨m, hm⟩ : ∃ m, m = mulN A x := ⟨_, rfl⟩
      have HM : Aside0 (∀ w, Calls Try.prog 40 #[.int .u8 (A : Int), .int .u8 (x : Int)] w fun e w' => e = .returned (.int .u8 (m : Int)) ∧ w' = w) := ⟨fun w => by rw [hm]; exact mul_walk A x HA.out (by omega) w⟩
      have HX := Aside0.mk (And.intro hx hx1)
      have HMM := Aside0.mk hm
      clear hx hx1 hm
      by_cases h1 : m = 1
      · have HE : Aside0 (invM A (x + 1) = x) := ⟨by rw [invM, ← HMM.out, if_pos h1]⟩
        have hb : ((m : Int) == 1) = true := by rw [h1]; rfl
        clear h1
        go_wp2_with (go_at_call 40; (with_reducible refine (HM.out _).mono ?_); rintro e w' ⟨rfl, rfl⟩)
        go_roundg gk1
        case measure => omega
        case rel => exact ⟨x + 1, by omega, by have := HX.out; omega, rfl, by rw [HE.out], rfl⟩
      · have HE : Aside0 (invM A (x + 1) = invM A x) := ⟨by rw [invM, ← HMM.out, if_neg h1]⟩
        have hb : ((m : Int) == 1) = false := by rw [beq_eq_false_iff_ne]; omega
        clear h1
        go_wp2_with (go_at_call 40; (with_reducible refine (HM.out _).mono ?_); rintro e w' ⟨rfl, rfl⟩)
        go_roundg gk1
        case measure => omega
        case rel => exact ⟨x + 1, by omega, by have := HX.out; omega, rfl, by rw [HE.out], rfl⟩
/-! the stand-ins are the program's -/
theorem pq_inv_all : ∀ n : Nat, n < 255 → ((pqs 255 (1, 1))[n]?).map (fun x => decide (times x.2 x.1 = 1)) = some true := by decide +kernel
theorem pq_cover_all : ∀ n : Nat, n < 256 → n ≠ 0 → ((pqs 254 (1, 1)).any fun x => x.1.toNat == n) = true := by decide +kernel
theorem sbox_pq_all : ((pqs 254 (1, 1)).all fun x => gb sbox x.1.toNat == standIn x.2) = true := by decide +kernel
theorem sbox_zero : gb sbox 0 = standIn 0 := by decide +kernel
theorem times_one_all : ∀ n : Nat, n < 256 → times 1 (UInt8.ofNat n) = UInt8.ofNat n := by decide +kernel
theorem times_one (x : UInt8) : times 1 x = x := by
  have := times_one_all x.toNat x.toNat_lt
  rwa [UInt8.ofNat_toNat] at this
theorem inv_unique (a q x : UInt8) (hq : times q a = 1) (hx : times a x = 1) : x = q := by
  rw [← times_one x, ← hq, times_assoc, hx, times_comm, times_one]
theorem invM_hit (a q : Nat) (hq : q < 256) (h : mulN a q = 1) (hu : ∀ x, x < 256 → mulN a x = 1 → x = q) : ∀ x, x ≤ 256 → invM a x = if q < x then q else 0
  | 0, _ => by simp [invM]
  | x + 1, hx => by
    rw [invM]
    by_cases h1 : mulN a x = 1
    · rw [if_pos h1, hu x (by omega) h1, if_pos (by omega)]
    · rw [if_neg h1, invM_hit a q hq h hu x (by omega)]
      have hne : q ≠ x := fun e => h1 (by rw [← e]; exact h)
      by_cases h2 : q < x
      · rw [if_pos h2, if_pos (by omega)]
      · rw [if_neg h2, if_neg (by omega)]
theorem invM_miss (a : Nat) (hu : ∀ x, x < 256 → mulN a x ≠ 1) : ∀ x, x ≤ 256 → invM a x = 0
  | 0, _ => rfl
  | x + 1, hx => by rw [invM, if_neg (hu x (by omega)), invM_miss a hu x (by omega)]
theorem mulN_times (a x : Nat) (ha : a < 256) (hx : x < 256) : mulN a x = (times (UInt8.ofNat a) (UInt8.ofNat x)).toNat := by
  rw [← mul8_times, mul8_toNat, UInt8.toNat_ofNat', UInt8.toNat_ofNat', Nat.mod_eq_of_lt ha, Nat.mod_eq_of_lt hx]
theorem sbox_any (a : UInt8) : gb sbox a.toNat = standIn (invU a) := by
  by_cases h0 : a.toNat = 0
  · have ha : a = 0 := UInt8.toNat_inj.1 h0
    have e : invU a = 0 := by
      rw [invU, ha, show (0 : UInt8).toNat = 0 from rfl, invM_miss 0 (fun x hx => ?_) 256 (Nat.le_refl _)]
      · rfl
      · rw [mulN_times 0 x (by decide) hx, show UInt8.ofNat 0 = 0 from rfl, times_zero_l]
        decide
    rw [e, h0, sbox_zero]
  · obtain ⟨x, hx, hxa⟩ := List.any_eq_true.1 (pq_cover_all a.toNat a.toNat_lt h0)
    have hs := List.all_eq_true.1 sbox_pq_all x hx
    have hxa2 : x.1 = a := UInt8.toNat_inj.1 (by simpa using hxa)
    obtain ⟨n, hn, hxn⟩ := List.getElem_of_mem hx
    have hn2 : n < 255 := by
      have hl : ∀ n y, (pqs n y).length = n + 1 := by
        intro n
        induction n with
        | zero => intro y; rfl
        | succ n ih => intro y; rw [pqs, List.length_cons, ih]
      rw [hl] at hn
      omega
    have hinv := pq_inv_all n hn2
    have hget : (pqs 255 (1, 1))[n]? = some x := by
      have h1 := pqs_at 255 n (by omega) 0
      have h2 := pqs_at 254 n (by omega) 0
      rw [show pq 0 = (1, 1) from rfl] at h1 h2
      rw [h1, ← h2, List.getElem?_eq_getElem hn, hxn]
    rw [hget] at hinv
    have hq : times x.2 a = 1 := by rw [← hxa2]; simpa using hinv
    have hq2 : times a x.2 = 1 := by rw [times_comm]; exact hq
    have hm : invM a.toNat 256 = x.2.toNat := by
      rw [invM_hit a.toNat x.2.toNat x.2.toNat_lt ?_ ?_ 256 (Nat.le_refl _), if_pos x.2.toNat_lt]
      · rw [mulN_times _ _ a.toNat_lt x.2.toNat_lt, UInt8.ofNat_toNat, UInt8.ofNat_toNat, hq2]
        rfl
      · intro y hy hy1
        rw [mulN_times _ _ a.toNat_lt hy, UInt8.ofNat_toNat] at hy1
        have hy2 : times a (UInt8.ofNat y) = 1 := UInt8.toNat_inj.1 hy1
        have := inv_unique a x.2 _ hq hy2
        rw [← this, UInt8.toNat_ofNat', Nat.mod_eq_of_lt hy]
    have e : invU a = x.2 := by rw [invU, hm, UInt8.ofNat_toNat]
    rw [e, ← hxa2]
    simpa using hs
theorem sbox_length : sbox.length = 256 := by
  show ((standCells.drop 240).take 256).length = 256
  rw [List.length_take, List.length_drop, standCells_length]
  rfl
/-- all stand-ins -/
theorem table_any (w : World) : Calls Try.prog 38 #[] w fun e w' => ∃ g cap, e = .returned (.slice (some ⟨g, 0, none⟩) 256 cap) ∧ Own w' w.heap.size 5 (.slice (some ⟨g, 0, none⟩) 256 cap) (b8s sbox) ∧ Below w.heap.size w w' := by
  go_enter Try.func38, Try.ntmps38
  go_wp2
  go_loopg [1, 2] 256 (fun gg s1 s2 wr => ∃ x : Nat, x + gg = 256 ∧ s2 = .int .i64 x ∧ Own wr w.heap.size 5 s1 (b8s (sbox.take x)) ∧ Below w.heap.size w wr)
  case atStart => exact ⟨0, by omega, rfl, Own.nil _ _ _, Below.refl _ _⟩
  case round =>
    obtain ⟨x, hx, rfl, ho, hb⟩ := hrel
    have HO := Aside0.mk ho
    have HB := Aside0.mk hb
    clear ho hb
    cases gk with
    | zero =>
      have hx2 : x = 256 := by omega
      subst hx2
      clear hx
      have hl : (b8s (sbox.take 256)).length = 256 := by rw [b8s_length, List.length_take, sbox_length]; rfl
      obtain ⟨g, cap, rfl, _, _⟩ := HO.out.form hl (by decide)
      have e : sbox.take 256 = sbox := List.take_of_length_le (by rw [sbox_length]; exact Nat.le_refl _)
      rw [e] at HO
      clear hl e
      go_wp2
      go_ret
      exact ⟨g, cap, rfl, HO.out, HB.out⟩
    | succ gk1 =>
      have hlt : (x : Int) < 256 := by omega
      have h0x : (0 : Int) ≤ (x : Int) := by omega
      have hxn : x < 256 := by omega
      have HSI : Aside0 (∀ w, Calls Try.prog 54 #[.int .u8 (x : Int)] w fun e w' => e = .returned (.int .u8 ((gb sbox x).toNat : Int)) ∧ w' = w) := ⟨fun w => by
        have h := standIn_any (UInt8.ofNat x) w
        have e : (UInt8.ofNat x).toNat = x := by rw [UInt8.toNat_ofNat']; omega
        rw [← sbox_any, e] at h
        exact h⟩
      have HXX := Aside0.mk (And.intro hx hxn)
      have HS1 : Aside0 (w.heap.size ≤ wr.heap.size) := ⟨HB.out.size⟩
      have HLL : Aside0 ((b8s (sbox.take x)).length = x) := ⟨by rw [b8s_length, List.length_take, sbox_length]; omega⟩
      clear hx hxn
      go_wp2_with (first
        | (go_at_call 54; (with_reducible refine (HSI.out _).mono ?_); rintro e w' ⟨rfl, rfl⟩)
        | ((with_reducible refine gate_builtin (b := .append) (xs := #[.tmp 7, .tmp 11]) rfl ?_); at_builtin; refine HO.out.push8 HS1.out rfl _ _ rfl rfl rfl (by rw [HLL.out]; have := HXX.out; omega) ?_; intro v7 w2 h7 b7; have n0 := Aside0.mk h7; have n1 := Aside0.mk (HB.out.trans b7); clear HO HB h7 b7; have HO := n0; have HB := n1; clear n0 n1))
      go_roundg gk1
      case measure => omega
      case rel =>
        refine ⟨x + 1, by have := HXX.out; omega, rfl, ?_, HB.out⟩
        have h := HO.out
        have e : sbox.take (x + 1) = sbox.take x ++ [gb sbox x] := by
          have hl : x < sbox.length := by rw [sbox_length]; exact HXX.out.2
          rw [← List.take_append_getElem hl]
          congr 2
          simp [gb, List.getD_eq_getElem?_getD, hl]
        rw [e]
        simpa [b8s, b8] using h
end Go.Proofs.Ytfbcgpgpfpnpnaa.Given
