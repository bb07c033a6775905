/- Contracts of sha's square, cube, primes. Conditions: as each theorem names them. -/
import Derived.Test.YtbafbpfpnfnikaaShaA
namespace Go.Proofs.Ytbafbpfpnfnikaa.Given
open Go.RowKit Go.Proofs.YtbafbpfpnfnikaaW.PrintWords Go.Proofs.YtbafbpfpnfnikaaW.PrintLast Go.Proofs.YtbafbpfpnfnikaaW.PrintMore
open Go.Proofs.Ytbafbpfpnfnikaa.Row Go.Proofs.Ytbafbpfpnfnikaa.Row.At
set_option maxRecDepth 100000
set_option linter.unusedVariables false
set_option linter.unusedSimpArgs false
theorem square_any (p : Nat) (w : World) (hp : p < 4294967296) :
    Calls Try.prog 32 #[.int .u64 p] w fun e w' => e = .returned (.int .u32 (IntKind.u32.wrap (rootN (sqQ p) 36 0 : Nat))) ∧ Below w.heap.size w w' := by
  have HP := Aside0.mk hp
  have HG : Aside0 (At (w.alloc (.cells #[.int .u64 p] 50 (0, 0))) w.heap.size 50 [.int .u64 p]) := ⟨At.newAt rfl⟩
  obtain ⟨R, hR⟩ : ∃ R, R = rootN (sqQ p) 36 0 := ⟨_, rfl⟩
  rw [← hR]
  have HR := Aside0.mk hR
  clear hp hR
  go_enter Try.func32, Try.ntmps32
  go_wp2_with (go_at_call 40; refine (root_sq p _ _ HP.out HG.out).mono ?_; rintro e w' ⟨rfl, rfl⟩; rw [← HR.out])
  go_ret
  exact ⟨rfl, (Below.refl _ w).alloc (Nat.le_refl _) _⟩
theorem cube_any (p : Nat) (w : World) (hp : p < 4294967296) :
    Calls Try.prog 33 #[.int .u64 p] w fun e w' => e = .returned (.int .u32 (IntKind.u32.wrap (rootN (cuQ p) 36 0 : Nat))) ∧ Below w.heap.size w w' := by
  have HP := Aside0.mk hp
  have HG : Aside0 (At (w.alloc (.cells #[.int .u64 p] 50 (0, 0))) w.heap.size 50 [.int .u64 p]) := ⟨At.newAt rfl⟩
  obtain ⟨R, hR⟩ : ∃ R, R = rootN (cuQ p) 36 0 := ⟨_, rfl⟩
  rw [← hR]
  have HR := Aside0.mk hR
  clear hp hR
  go_enter Try.func33, Try.ntmps33
  go_wp2_with (go_at_call 40; refine (root_cu p _ _ HP.out HG.out).mono ?_; rintro e w' ⟨rfl, rfl⟩; rw [← HR.out])
  go_ret
  exact ⟨rfl, (Below.refl _ w).alloc (Nat.le_refl _) _⟩
/-- numbers as cells -/
def n64s (l : List Nat) : List Value := l.map fun (n : Nat) => .int .u64 (n : Int)
theorem n64s_length (l : List Nat) : (n64s l).length = l.length := by simp [n64s]
theorem n64s_get (l : List Nat) (j : Nat) (h : j < l.length) : (n64s l)[j]? = some (.int .u64 ((l.getD j 0 : Nat) : Int)) := by
  simp [n64s, h, List.getD_eq_getElem?_getD]
theorem n64s_set (l : List Nat) (j n : Nat) : (n64s l).set j (.int .u64 (n : Int)) = n64s (l.set j n) := by simp [n64s, List.map_set]
theorem n64s_one (l : List Nat) : ∀ v ∈ n64s l, v.oneCell' = true := by
  intro v hv
  simp only [n64s, List.mem_map] at hv
  obtain ⟨_, _, rfl⟩ := hv
  rfl
def startP (i : Nat) : Nat := if i = 0 then 2 else primeL.getD (i - 1) 0 + 1
theorem prime_gap : ∀ i, i < 64 → startP i ≤ primeL.getD i 0 ∧ primeL.getD i 0 < 1000 ∧ 2 ≤ primeL.getD i 0 := by decide +kernel
theorem prime_not : ∀ i, i < 64 → ∀ n, n < 312 → startP i ≤ n → n < primeL.getD i 0 → ∃ j, j < i ∧ n % primeL.getD j 0 = 0 := by decide +kernel
theorem prime_is : ∀ i, i < 64 → ∀ j, j < i → primeL.getD i 0 % primeL.getD j 0 ≠ 0 := by decide +kernel
theorem prime_top : ∀ i, i < 64 → primeL.getD i 0 < 312 := by decide +kernel
/-- the row while it is filled -/
def rowP (i : Nat) : List Nat := primeL.take i ++ List.replicate (64 - i) 0
theorem rowP_length (i : Nat) (h : i ≤ 64) : (rowP i).length = 64 := by
  simp only [rowP, List.length_append, List.length_take, List.length_replicate, primeL_length]
  omega
theorem rowP_get (i j : Nat) (h : j < i) (hi : i ≤ 64) : (rowP i).getD j 0 = primeL.getD j 0 := by
  have hl := primeL_length
  rw [List.getD_eq_getElem?_getD, List.getD_eq_getElem?_getD, rowP, List.getElem?_append_left (by rw [List.length_take]; omega), List.getElem?_take, if_pos h]
theorem rowP_set (i : Nat) (h : i < 64) : (rowP i).set i (primeL.getD i 0) = rowP (i + 1) := by
  have hl := primeL_length
  have e : 64 - i = (64 - (i + 1)) + 1 := by omega
  have ht : (primeL.take i).length = i := by rw [List.length_take]; omega
  rw [rowP, rowP, e, List.replicate_succ, List.set_append_right _ _ (by omega), ht, Nat.sub_self, List.set_cons_zero, ← List.take_append_getElem (by omega : i < primeL.length), List.append_assoc]
  congr 2
  simp [List.getD_eq_getElem?_getD, hl, h]
theorem info64 : (Try.prog.info? 54).map (·.size) = some 64 := by kernel_rfl
attribute [-simp] Try.isAgg54 Try.sizeOf54
set_option maxHeartbeats 1000000 in
theorem primes_any (w : World) :
    Calls Try.prog 31 #[] w fun e w' => e = .returned (.agg (n64s primeL).toArray) ∧ Below w.heap.size w w' := by
  go_enter Try.func31, Try.ntmps31
  go_wp2
  have HA : Aside0 (At ((w.alloc (.cells (n64s (List.replicate 64 0)).toArray 54 (0, 0))).alloc (.cells (n64s (List.replicate 64 0)).toArray 54 (0, 0))) (w.heap.size + 1) 54 (n64s (rowP 0))) := ⟨At.newAt (by simp)⟩
  have HZ : Aside0 (At ((w.alloc (.cells (n64s (List.replicate 64 0)).toArray 54 (0, 0))).alloc (.cells (n64s (List.replicate 64 0)).toArray 54 (0, 0))) w.heap.size 54 (n64s (List.replicate 64 0))) := ⟨(At.new w _ _).alloc _⟩
  have HB : Aside0 (Below w.heap.size w ((w.alloc (.cells (n64s (List.replicate 64 0)).toArray 54 (0, 0))).alloc (.cells (n64s (List.replicate 64 0)).toArray 54 (0, 0)))) := ⟨((Below.refl _ w).alloc (Nat.le_refl _) _).alloc (by simp) _⟩
  go_loopg [2, 5] 64 (fun gg s2 s5 wx => ∃ i : Nat, i + gg = 64 ∧ s5 = .int .i64 i ∧ s2 = .int .u64 (startP i) ∧ At wx (w.heap.size + 1) 54 (n64s (rowP i)) ∧ At wx w.heap.size 54 (n64s (List.replicate 64 0)) ∧ Below w.heap.size w wx)
  case atStart => exact ⟨0, by omega, rfl, rfl, HA.out, HZ.out, HB.out⟩
  case round =>
    obtain ⟨i, hi, rfl, rfl, ha, hz, hb⟩ := hrel
    clear HA HZ HB
    have HA := Aside0.mk ha
    have HZ := Aside0.mk hz
    have HB := Aside0.mk hb
    clear ha hz hb
    cases gk with
    | zero =>
      have hi64 : i = 64 := by omega
      subst hi64
      have e64 : rowP 64 = primeL := by decide +kernel
      rw [e64] at HA
      go_wp2_with (first
        | ((with_reducible refine gate_dst (N := 27) rfl ?_); refine HA.out.load _ _ rfl rfl rfl _ Try.underlying54 rfl (by rw [n64s_length, primeL_length]; exact info64) ?_)
        | (refine HZ.out.store _ _ _ (n64s primeL) rfl rfl rfl rfl (by rw [n64s_length, n64s_length, primeL_length, List.length_replicate]) (by rw [n64s_length, primeL_length]; exact info64) (n64s_one _) ?_))
      refine bodyPost_ret ((HZ.out.setRow _).ret rfl _ _ rfl Try.underlying54 rfl (by rw [n64s_length, primeL_length]; exact info64)) rfl ⟨rfl, At.row_below HB.out (by omega) _⟩
    | succ go =>
      have hi64 : i < 64 := by omega
      obtain ⟨hg1, hg2, hg3⟩ := prime_gap i hi64
      have htop := prime_top i hi64
      have HI := Aside0.mk hi64
      obtain ⟨q, hq⟩ : ∃ q, q = primeL.getD i 0 := ⟨_, rfl⟩
      rw [← hq] at hg1 hg2 hg3 htop
      have HQ := Aside0.mk hq
      have HG := Aside0.mk (And.intro hg1 (And.intro hg2 (And.intro hg3 htop)))
      have hlt : (i : Int) < 64 := by omega
      clear hi64 hg1 hg2 hg3 htop hq
      go_wp2
      go_loopg [2, 4] ((q - startP i) * 100 + i) (fun gg s2 s4 wx => ∃ n j : Nat, gg = (q - n) * 100 + (i - j) ∧ s2 = .int .u64 n ∧ s4 = .int .i64 j ∧ j ≤ i ∧ startP i ≤ n ∧ n ≤ q ∧ (∀ k, k < j → n % primeL.getD k 0 ≠ 0) ∧ wx = wr)
      case atStart => exact ⟨startP i, 0, by simp, rfl, rfl, by omega, Nat.le_refl _, HG.out.1, fun k hk => by omega, rfl⟩
      case round =>
        obtain ⟨n, j, hgg, rfl, rfl, hj, hs, hnq, hall, rfl⟩ := hrel
        have HGG := Aside0.mk hgg
        have HALL := Aside0.mk hall
        have HSN := Aside0.mk (And.intro hs hnq)
        clear hgg hall hs hnq
        by_cases hji : j = i
        · subst hji
          have hn : n = q := by
            rcases Nat.lt_or_ge n q with h | h
            · obtain ⟨k, hk, hz⟩ := prime_not j HI.out n (by have := HG.out.2.2.2; omega) HSN.out.1 (by rw [← HQ.out]; exact h)
              exact absurd hz (HALL.out k hk)
            · have := HSN.out.2; omega
          subst hn
          have hge : ¬ ((j : Int) < (j : Int)) := by omega
          have c1 := HA.out.cell j _ (n64s_get _ j (by rw [rowP_length _ (by have := HI.out; omega)]; exact HI.out))
          have f1 := HA.out.frozen j
          clear hj
          go_wp2
          have hw : IntKind.u64.wrap ((n : Int) + 1) = ((n + 1 : Nat) : Int) := by have := HG.out.2.2.2; rw [IntKind.wrap_u64]; omega
          go_roundg go
          case measure => omega
          case rel =>
            refine ⟨j + 1, by omega, by congr 1, ?_, ?_, HZ.out.other _ _ (by dsimp; omega), HB.out.setCell (by dsimp; omega) _⟩
            · have e : startP (j + 1) = n + 1 := by unfold startP; rw [if_neg (by omega), HQ.out]; rfl
              rw [e, hw]
            · have h2 := HA.out.set j (.int .u64 (n : Int))
              rw [n64s_set] at h2
              have h3 := rowP_set j HI.out
              rw [← HQ.out] at h3
              rw [h3] at h2
              exact h2
        · have hjl : j < i := by omega
          have hlt2 : (j : Int) < (i : Int) := by omega
          have hi64 := HI.out
          have hrl := rowP_length i (by omega)
          have c1 := HA.out.cell j _ (n64s_get _ j (by omega))
          rw [rowP_get i j hjl (by omega)] at c1
          obtain ⟨hp1, hp2, hp3⟩ := prime_gap j (by omega)
          obtain ⟨p, hp⟩ : ∃ p, p = primeL.getD j 0 := ⟨_, rfl⟩
          rw [← hp] at c1 hp2 hp3
          have HP := Aside0.mk hp
          have hj64 : (j : Int) < 64 := by omega
          have hp0 : ¬ ((p : Int) = 0) := by omega
          have hw : IntKind.u64.wrap ((n : Int) + 1) = ((n + 1 : Nat) : Int) := by have := HG.out.2.2.2; have := HSN.out.2; rw [IntKind.wrap_u64]; omega
          have HJ := Aside0.mk (And.intro hjl hj)
          have HI6 := Aside0.mk hi64
          clear hp hp1 hp2 hrl hjl hj hji hi64
          by_cases hm : n % p = 0
          · have hm2 : (n : Int) % (p : Int) = 0 := by rw [← Int.natCast_emod, hm]; rfl
            have hm1 : (n : Int).tmod (p : Int) = 0 := by rw [Int.tmod_eq_emod_of_nonneg (by omega)]; exact hm2
            have hnq : n < q := by
              rcases Nat.lt_or_ge n q with h | h
              · exact h
              · have : n = q := by have := HSN.out.2; omega
                exact absurd (by rw [this, HP.out, HQ.out] at hm; exact hm) (prime_is i HI.out j HJ.out.1)
            have HNQ := Aside0.mk hnq
            clear hm hnq hp3
            go_wp2
            go_roundg ((q - (n + 1)) * 100 + (i - 0))
            case measure => have h1 := HNQ.out; have h2 := HGG.out; have h3 := HJ.out; have h4 := HI6.out; omega
            case rel => exact ⟨n + 1, 0, rfl, rfl, rfl, by omega, by have := HSN.out.1; omega, HNQ.out, fun k hk => by omega, rfl⟩
          · have hm2 : ¬ ((n : Int) % (p : Int) = 0) := by rw [← Int.natCast_emod]; omega
            have hm1 : ¬ ((n : Int).tmod (p : Int) = 0) := by rw [Int.tmod_eq_emod_of_nonneg (by omega)]; exact hm2
            have HM := Aside0.mk hm
            clear hm hp3
            go_wp2
            go_roundg ((q - n) * 100 + (i - (j + 1)))
            case measure => have h2 := HGG.out; have h3 := HJ.out; omega
            case rel =>
              refine ⟨n, j + 1, rfl, rfl, ?_, by have := HJ.out.1; omega, HSN.out.1, HSN.out.2, fun k hk => ?_, rfl⟩
              · rfl
              · by_cases hkj : k < j
                · exact HALL.out k hkj
                · obtain rfl : k = j := by omega
                  rw [← HP.out]; exact HM.out
end Go.Proofs.Ytbafbpfpnfnikaa.Given
