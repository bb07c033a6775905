/- Contracts of sha's add, Add and bytes. Conditions: a hash in memory; fewer than 2^47 bytes. -/
import Derived.Test.YtbafbpfpnfnikaaShaE
import Derived.Test.YtbafbpfpnfnikaaBld
namespace Go.Proofs.Ytbafbpfpnfnikaa.Given
open Go.RowKit Go.Proofs.YtbafbpfpnfnikaaW.PrintWords Go.Proofs.YtbafbpfpnfnikaaW.PrintLast Go.Proofs.YtbafbpfpnfnikaaW.PrintMore
open Go.Proofs.Ytbafbpfpnfnikaa.Row Go.Proofs.Ytbafbpfpnfnikaa.Row.At
set_option maxRecDepth 100000
set_option linter.unusedVariables false
set_option linter.unusedSimpArgs false
/-- whole pieces of 64 bytes gone through -/
def eat : Nat → List UInt32 → ByteArray → List UInt32 × ByteArray
  | 0, s, r => (s, r)
  | n + 1, s, r => if 64 ≤ r.size then eat n (go64S s r.data.toList) (r.extract 64 r.size) else (s, r)
theorem eat_length : ∀ n s r, s.length = 8 → (eat n s r).1.length = 8
  | 0, s, r, h => h
  | n + 1, s, r, h => by
    simp only [eat]
    split
    · exact eat_length n _ _ (go64S_length _ _ h)
    · exact h
theorem add_any (s : List UInt32) (rest x : ByteArray) (many : Nat) (hs : s.length = 8) (hb : rest.size + x.size ≤ 140737488355328) (g : Nat) (w : World) (h : At w g 53 (hCells s rest many KK)) :
    Calls Try.prog 34 #[.pointer (some ⟨g, 0, none⟩), .string x] w fun e w' => e = .returned (.tuple #[]) ∧ At w' g 53 (hCells (eat ((rest ++ x).size / 64) s (rest ++ x)).1 (eat ((rest ++ x).size / 64) s (rest ++ x)).2 many KK) ∧ Gr g w w' := by
  have HS := Aside0.mk hs
  have HB := Aside0.mk hb
  have HH := Aside0.mk h
  have hle : rest.size + x.size ≤ 9223372036854775807 := by omega
  have c1 := h.cell 8 _ (hCells_rest s rest many KK hs)
  have f1 := h.frozen 8
  have hx : (rest ++ x).size = rest.size + x.size := ByteArray.size_append
  obtain ⟨r0, hr0⟩ : ∃ r0, r0 = rest ++ x := ⟨_, rfl⟩
  rw [← hr0] at hx ⊢
  have HX := Aside0.mk hx
  obtain ⟨E, hE⟩ : ∃ E, E = eat (r0.size / 64) s r0 := ⟨_, rfl⟩
  rw [← hE]
  have HE := Aside0.mk hE
  have HR0 := Aside0.mk hr0
  clear hs hb h hx hE hr0
  go_enter Try.func34, Try.ntmps34
  go_wp2
  rw [← HR0.out]
  clear hle c1 f1
  go_loopg [] (r0.size / 64) (fun gg wx => ∃ (s' : List UInt32) (r : ByteArray), gg = r.size / 64 ∧ s'.length = 8 ∧ eat gg s' r = E ∧ r.size ≤ 140737488355328 ∧ At wx g 53 (hCells s' r many KK) ∧ Gr g w wx)
  case atStart =>
    refine ⟨s, r0, rfl, HS.out, HE.out.symm, by rw [HX.out]; exact HB.out, ?_, (Gr.refl g w).setCell (.inl rfl) _ _⟩
    have h2 := HH.out.set 8 (.string r0)
    rw [hCells_set_rest s rest r0 many KK HS.out] at h2
    exact h2
  case round =>
    obtain ⟨s', r, hgg, hs, hee, hrb, ha, hg⟩ := hrel
    have HGG := Aside0.mk hgg
    have HS1 := Aside0.mk hs
    have HEE := Aside0.mk hee
    have HRB := Aside0.mk hrb
    have HA := Aside0.mk ha
    have HG := Aside0.mk hg
    have c1 := ha.cell 8 _ (hCells_rest s' r many KK hs)
    have f1 := ha.frozen 8
    clear hgg hs hee hrb ha hg HH
    cases gk with
    | zero =>
      have hlt : ¬ ((64 : Int) ≤ (r.size : Int)) := by have := HGG.out; omega
      go_wp2
      go_end0
      have he := HEE.out
      simp only [eat] at he
      rw [← he]
      exact ⟨rfl, HA.out, HG.out⟩
    | succ gk =>
      have hlt : (64 : Int) ≤ (r.size : Int) := by have := HGG.out; omega
      have H64 : Aside0 (64 ≤ r.size) := ⟨by have := HGG.out; omega⟩
      go_wp2_with (go_at_call 44; refine (go64_any s' r many r HS1.out H64.out g _ HA.out).mono ?_; rintro e w2 ⟨rfl, h2, hg2⟩; have n2 := Aside0.mk (HG.out.trans hg2); clear HA HG hg2 c1 f1; have HA := Aside0.mk h2; have HG := n2; clear n2 h2; have c1 := HA.out.cell 8 _ (hCells_rest (go64S s' r.data.toList) r many KK (go64S_length _ _ HS1.out)); have f1 := HA.out.frozen 8)
      go_roundg gk
      case measure => omega
      case rel =>
        have hsz : (r.extract 64 r.size).size = r.size - 64 := by rw [ByteArray.size_extract]; omega
        refine ⟨go64S s' r.data.toList, r.extract 64 r.size, by rw [hsz]; have := HGG.out; omega, go64S_length _ _ HS1.out, ?_, by rw [hsz]; have := HRB.out; omega, ?_, HG.out.setCell (.inl rfl) _ _⟩
        · rw [← HEE.out, eat, if_pos H64.out]
        · have h3 := HA.out.set 8 (.string (r.extract 64 r.size))
          rw [hCells_set_rest _ _ _ _ _ (go64S_length _ _ HS1.out)] at h3
          exact h3
theorem shaAdd_any (s : List UInt32) (rest x : ByteArray) (many : Nat) (hs : s.length = 8) (hb : rest.size + x.size ≤ 140737488355328) (hm : many + x.size < 18446744073709551616) (g : Nat) (w : World) (h : At w g 53 (hCells s rest many KK)) :
    Calls Try.prog 16 #[.pointer (some ⟨g, 0, none⟩), .string x] w fun e w' => e = .returned (.int .i64 0) ∧ At w' g 53 (hCells (eat ((rest ++ x).size / 64) s (rest ++ x)).1 (eat ((rest ++ x).size / 64) s (rest ++ x)).2 (many + x.size) KK) ∧ Gr g w w' := by
  have HS := Aside0.mk hs
  have HB := Aside0.mk hb
  have HH := Aside0.mk h
  have c1 := h.cell 9 _ (hCells_many s rest many KK hs)
  have f1 := h.frozen 9
  obtain ⟨m2, hm2⟩ : ∃ m2, m2 = many + x.size := ⟨_, rfl⟩
  rw [← hm2]
  have e1 : IntKind.u64.wrap (x.size : Int) = (x.size : Int) := by rw [IntKind.wrap_u64]; omega
  have e2 : IntKind.u64.wrap ((many : Int) + (x.size : Int)) = (m2 : Int) := by rw [IntKind.wrap_u64]; omega
  obtain ⟨w1, hw1⟩ : ∃ w1, w1 = w.setCell ⟨g, 9, none⟩ (.int .u64 (m2 : Int)) := ⟨_, rfl⟩
  have HH1 : Aside0 (At w1 g 53 (hCells s rest m2 KK)) := ⟨by
    have h3 := h.set 9 (.int .u64 (m2 : Int))
    rw [hCells_set_many _ _ _ _ _ hs] at h3
    rw [hw1]; exact h3⟩
  have HG1 : Aside0 (Gr g w w1) := ⟨by rw [hw1]; exact (Gr.refl g w).setCell (.inl rfl) _ _⟩
  have HW1 := Aside0.mk hw1
  clear hs hb h hm hm2 hw1
  go_enter Try.func16, Try.ntmps16
  go_wp2_with (go_at_call 34; rw [← HW1.out]; refine (add_any s rest x m2 HS.out HB.out g _ HH1.out).mono ?_; rintro e w2 ⟨rfl, h2, hg2⟩; have HA := Aside0.mk h2; have HG := Aside0.mk (HG1.out.trans hg2); clear h2 hg2)
  go_ret
  exact ⟨rfl, HA.out, HG.out⟩
theorem shaAdd_nil (x : ByteArray) (w : World) :
    Calls Try.prog 16 #[.pointer none, .string x] w fun e w' => e = .returned (.int .i64 2) ∧ w' = w := by
  go_enter Try.func16, Try.ntmps16
  go_wp2
  go_ret
  exact ⟨rfl, rfl⟩
/-- a number's bytes, the highest first -/
def bytesL (n k : Nat) : List UInt8 := (List.range k).map fun j => UInt8.ofNat (n / 2 ^ (8 * (k - 1 - j)))
theorem bytesL_length (n k : Nat) : (bytesL n k).length = k := by simp [bytesL]
theorem freshBldS (w : World) : Bld w.heap.size w.heap.size [] (w.alloc (.cells #[.pointer none, .slice none 0 0] 74)) :=
  Lib.IsBuilderF.of (Lib.fresh_isBuilder 74 5 w)
theorem bytesL_take (n k gk : Nat) (hk : gk < k) : (bytesL n k).take (k - gk) = (bytesL n k).take (k - (gk + 1)) ++ [UInt8.ofNat (n / 2 ^ (8 * gk))] := by
  have h : k - (gk + 1) < (bytesL n k).length := by rw [bytesL_length]; omega
  have e : k - gk = (k - (gk + 1)) + 1 := by omega
  rw [e, ← List.take_append_getElem h]
  congr 2
  simp only [bytesL, List.getElem_map, List.getElem_range]
  congr 3
  omega
theorem byte_ofS (n k : Nat) : (n : Int) / 2 ^ (8 * k) % 256 = ((UInt8.ofNat (n / 2 ^ (8 * k))).toNat : Int) := by
  rw [UInt8.toNat_ofNat']
  simp
theorem stringBS {B b : Nat} {l : List UInt8} {w : World} (h : Bld B b l w) (hB : B ≤ w.heap.size) :
    Calls Try.prog 50 #[.pointer (some ⟨b, 0, none⟩)] w fun e w' => e = .returned (.string ⟨l.toArray⟩) ∧ Bld B b l w' ∧ Below B w w' ∧ Lib.OthersKept 5 (some b) w w' :=
  Try.Builder_String_any_k B b l w h hB
set_option maxHeartbeats 1000000 in
theorem bytes_any (n k : Nat) (hk : k ≤ 8) (w : World) :
    Calls Try.prog 36 #[.int .u64 n, .int .i64 k] w fun e w' => e = .returned (.string ⟨(bytesL n k).toArray⟩) ∧ Below w.heap.size w w' := by
  have HK := Aside0.mk hk
  have HBl := Aside0.mk (freshBldS w)
  have HB : Aside0 (Below w.heap.size w (w.alloc (.cells #[.pointer none, .slice none 0 0] 74))) := ⟨(Below.refl _ w).alloc (Nat.le_refl _) _⟩
  have e0 : wrap64 ((k : Int) - 1) = (k : Int) - 1 := wrap64_of_bounds (by omega) (by omega)
  clear hk
  go_enter Try.func36, Try.ntmps36
  go_wp2
  try rw [e0]
  clear e0
  go_loopg [6] k (fun gg s6 wx => gg ≤ k ∧ s6 = .int .i64 ((gg : Int) - 1) ∧ Bld w.heap.size w.heap.size ((bytesL n k).take (k - gg)) wx ∧ Below w.heap.size w wx)
  case atStart => exact ⟨Nat.le_refl _, rfl, by simpa using HBl.out, HB.out⟩
  case round =>
    obtain ⟨hn, rfl, ha, hb⟩ := hrel
    clear HBl HB
    have HA := Aside0.mk ha; have HB := Aside0.mk hb
    clear ha hb
    cases gk with
    | zero =>
      have e8 : (bytesL n k).take (k - 0) = bytesL n k := List.take_of_length_le (by rw [bytesL_length]; omega)
      rw [e8] at HA
      clear e8
      go_wp2_with (go_at_call 50; (refine (stringBS HA.out HB.out.size).mono ?_); rintro e w2 ⟨rfl, h2, hb, ho⟩; have n1 := Aside0.mk (HB.out.trans hb); clear HA HB h2 hb ho; have HB := n1; clear n1)
      go_ret
      exact ⟨rfl, HB.out⟩
    | succ gk =>
      have q1 : ((gk + 1 : Nat) : Int) - 1 = (gk : Int) := by omega
      rw [q1]
      have q2 : (0 : Int) ≤ (gk : Int) := by omega
      have HBY := Aside0.mk (byte_ofS n gk)
      have hw8 : wrap64 (8 * (gk : Int)) = 8 * (gk : Int) := by have := HK.out; exact wrap64_of_bounds (by omega) (by omega)
      have HG8 : Aside0 (gk < 8) := ⟨by have := HK.out; omega⟩
      have hg8 : gk < 8 := HG8.out
      go_wp2_with (go_at_call 51; (rw [HBY.out]; refine (writeByte w.heap.size _ _ _ _ HA.out (by rw [List.length_take, bytesL_length]; have := HK.out; omega) HB.out.size).mono ?_); rintro e w2 ⟨rfl, h2, hb, ho⟩; have n1 := Aside0.mk (HB.out.trans hb); have n2 := Aside0.mk h2; clear HA HB h2 hb ho; have HA := n2; have HB := n1; clear n1 n2)
      go_roundg gk
      case measure => omega
      case rel => exact ⟨by omega, by congr 1, by rw [bytesL_take _ _ _ (by omega)]; exact HA.out, HB.out⟩
end Go.Proofs.Ytbafbpfpnfnikaa.Given
