/- A hash by what was added to it: New, Add, Sum, Copy. Conditions: fewer than 2^47 bytes. -/
import Derived.Test.YtbafbpfpnfnikaaShaH
namespace Go.Proofs.Ytbafbpfpnfnikaa.Given
open Go.RowKit Go.Proofs.YtbafbpfpnfnikaaW.PrintWords Go.Proofs.YtbafbpfpnfnikaaW.PrintLast Go.Proofs.YtbafbpfpnfnikaaW.PrintMore
open Go.Proofs.Ytbafbpfpnfnikaa.Row Go.Proofs.Ytbafbpfpnfnikaa.Row.At
set_option maxRecDepth 100000
set_option linter.unusedVariables false
set_option linter.unusedSimpArgs false
theorem gb_app (a b : List UInt8) (j : Nat) (h : j < a.length) : gb (a ++ b) j = gb a j := by
  simp only [gb, List.getD_eq_getElem?_getD, List.getElem?_append_left h]
theorem wRow_app (a b : List UInt8) (h : 64 ≤ a.length) : ∀ i, wRow (a ++ b) i = wRow a i
  | 0 => rfl
  | i + 1 => by
    rw [wRow, wRow, wRow_app a b h i]
    by_cases hi : i < 16
    · rw [if_pos hi, if_pos hi, wordOf, wordOf, gb_app _ _ _ (by omega), gb_app _ _ _ (by omega), gb_app _ _ _ (by omega), gb_app _ _ _ (by omega)]
    · rw [if_neg hi, if_neg hi]
theorem go64S_app (s : List UInt32) (a b : List UInt8) (h : 64 ≤ a.length) : go64S s (a ++ b) = go64S s a := by
  rw [go64S, go64S, wRow_app a b h]
theorem app_extract (r y : ByteArray) (h : 64 ≤ r.size) : (r ++ y).extract 64 (r ++ y).size = r.extract 64 r.size ++ y := by
  apply ByteArray.ext
  apply Array.toList_inj.1
  have hl : 64 ≤ r.data.toList.length := h
  have e1 : (r ++ y).data.toList = r.data.toList ++ y.data.toList := by simp
  have e2 : (r.extract 64 r.size ++ y).data.toList = (r.extract 64 r.size).data.toList ++ y.data.toList := by simp
  have e3 : ∀ (x : ByteArray), (x.extract 64 x.size).data.toList = x.data.toList.drop 64 := fun x => by
    rw [ByteArray.data_extract, Array.toList_extract, List.extract_eq_take_drop]
    rw [List.take_of_length_le]
    rw [List.length_drop]
    exact Nat.le_refl _
  rw [e3, e2, e3, e1, List.drop_append_of_le_length hl]
theorem eat_app (y : ByteArray) : ∀ n s r, n * 64 ≤ r.size → eat n s (r ++ y) = ((eat n s r).1, (eat n s r).2 ++ y)
  | 0, s, r, h => rfl
  | n + 1, s, r, h => by
    have h1 : 64 ≤ r.size := by omega
    have h2 : 64 ≤ (r ++ y).size := by rw [ByteArray.size_append]; omega
    have e1 : (r ++ y).data.toList = r.data.toList ++ y.data.toList := by simp
    rw [eat, eat, if_pos h1, if_pos h2, app_extract r y h1, e1, go64S_app _ _ _ h1]
    exact eat_app y n _ _ (by rw [ByteArray.size_extract]; omega)
theorem eat_add : ∀ a b s r, a * 64 ≤ r.size → eat (a + b) s r = eat b (eat a s r).1 (eat a s r).2
  | 0, b, s, r, h => by rw [Nat.zero_add]; rfl
  | a + 1, b, s, r, h => by
    have h1 : 64 ≤ r.size := by omega
    rw [Nat.succ_add, eat, if_pos h1]
    conv => rhs; rw [eat, if_pos h1]
    exact eat_add a b _ _ (by rw [ByteArray.size_extract]; omega)
/-- what a hash holds that has eaten these bytes -/
def ate (x : ByteArray) : List UInt32 × ByteArray := eat (x.size / 64) H0 x
theorem ate_rest (x : ByteArray) : (ate x).2.size = x.size % 64 := (eat_rest _ H0 x rfl).2
theorem ate_state (x : ByteArray) : (ate x).1.length = 8 := eat_length _ _ _ rfl
theorem ate_app (x y : ByteArray) : eat (((ate x).2 ++ y).size / 64) (ate x).1 ((ate x).2 ++ y) = ate (x ++ y) := by
  have hr := ate_rest x
  have e : (x ++ y).size / 64 = x.size / 64 + ((ate x).2 ++ y).size / 64 := by
    rw [ByteArray.size_append, ByteArray.size_append, hr]
    omega
  have h1 : x.size / 64 * 64 ≤ x.size := by omega
  show _ = eat ((x ++ y).size / 64) H0 (x ++ y)
  rw [e, eat_add _ _ _ _ (by rw [ByteArray.size_append]; omega), eat_app y _ _ _ h1]
  rfl
/-- A hash that has eaten these bytes. -/
def Ate (w : World) (g : Nat) (x : ByteArray) : Prop := At w g 53 (hCells (ate x).1 (ate x).2 x.size KK)
theorem Ate.lt {w : World} {g : Nat} {x : ByteArray} (h : Ate w g x) : g < w.heap.size := At.lt h
theorem Ate.go {w w' : World} {g : Nat} {x : ByteArray} (h : Ate w g x) (hb : Below w.heap.size w w') : Ate w' g x := at_go1 h hb
theorem Ate.gr {w w' : World} {g k : Nat} {x : ByteArray} (h : Ate w g x) (hg : Gr k w w') (hk : g ≠ k) : Ate w' g x := hg.at_ h hk
theorem ate_empty : (ate ⟨#[]⟩) = (H0, ⟨#[]⟩) := rfl
theorem new_ate (w : World) : Calls Try.prog 14 #[] w fun e w' => e = .returned (.pointer (some ⟨w.heap.size, 0, none⟩)) ∧ Ate w' w.heap.size ⟨#[]⟩ ∧ Below w.heap.size w w' := shaNew_any w
theorem add_ate (x y : ByteArray) (hb : x.size + y.size ≤ 140737488355000) (g : Nat) (w : World) (h : Ate w g x) :
    Calls Try.prog 16 #[.pointer (some ⟨g, 0, none⟩), .string y] w fun e w' => e = .returned (.int .i64 0) ∧ Ate w' g (x ++ y) ∧ Gr g w w' := by
  have hr := ate_rest x
  have := shaAdd_any (ate x).1 (ate x).2 y x.size (ate_state x) (by omega) (by omega) g w h
  rw [ate_app] at this
  refine this.mono fun e w' ⟨h1, h2, h3⟩ => ⟨h1, ?_, h3⟩
  unfold Ate
  rw [ByteArray.size_append]
  exact h2
theorem sum_ate (x : ByteArray) (hb : x.size ≤ 140737488355000) (g : Nat) (w : World) (h : Ate w g x) :
    Calls Try.prog 17 #[.pointer (some ⟨g, 0, none⟩)] w fun e w' => e = .returned (.string (shaW x)) ∧ Below w.heap.size w w' :=
  shaSum_any (ate x).1 (ate x).2 x.size (ate_state x) (by rw [ate_rest]; omega) (by omega) g w h
attribute [-simp] Try.isAgg53 Try.sizeOf53
theorem infoH2 : (Try.prog.info? 53).map (·.size) = some 74 := by kernel_rfl
theorem copy_nil (w : World) : Calls Try.prog 15 #[.pointer none] w fun e w' => e = .returned (.pointer none) ∧ w' = w := by
  go_enter Try.func15, Try.ntmps15
  go_wp2
  go_ret
  exact ⟨rfl, rfl⟩
theorem copy_cells (cs : List Value) (hl : cs.length = 74) (h1 : ∀ v ∈ cs, v.oneCell' = true) (g : Nat) (w : World) (h : At w g 53 cs) :
    Calls Try.prog 15 #[.pointer (some ⟨g, 0, none⟩)] w fun e w' => e = .returned (.pointer (some ⟨w.heap.size, 0, none⟩)) ∧ At w' w.heap.size 53 cs ∧ Below w.heap.size w w' := by
  have HH := Aside0.mk h
  have HL := Aside0.mk (And.intro hl h1)
  have z1 := (zero_of_info infoH).1
  obtain ⟨zc, hzc⟩ : ∃ zc, zc = hCells (List.replicate 8 0) ⟨#[]⟩ 0 (List.replicate 64 0) := ⟨_, rfl⟩
  have HZL : Aside0 (zc.length = 74) := ⟨by rw [hzc]; rfl⟩
  rw [← hzc] at z1
  have HA := Aside0.mk (At.newAt (w := w) (cs := zc) (t := 53) rfl)
  clear h hl h1 hzc
  go_enter Try.func15, Try.ntmps15
  go_wp2_with (first
    | ((with_reducible refine gate_dst (N := 8) rfl ?_); refine HH.out.load _ _ rfl rfl rfl _ Try.underlying53 rfl (by rw [HL.out.1]; exact infoH2) ?_)
    | (refine HA.out.store _ _ _ cs rfl rfl rfl rfl (by rw [HZL.out, HL.out.1]) (by rw [HL.out.1]; exact infoH2) HL.out.2 ?_))
  go_ret
  exact ⟨rfl, HA.out.setRow cs, At.row_below ((Below.refl _ w).alloc (Nat.le_refl _) _) (Nat.le_refl _) _⟩
theorem copy_ate (x : ByteArray) (g : Nat) (w : World) (h : Ate w g x) :
    Calls Try.prog 15 #[.pointer (some ⟨g, 0, none⟩)] w fun e w' => e = .returned (.pointer (some ⟨w.heap.size, 0, none⟩)) ∧ Ate w' w.heap.size x ∧ Below w.heap.size w w' :=
  copy_cells _ (hCells_length _ _ _ _ (ate_state x) rfl) (hCells_one _ _ _ _) g w h
end Go.Proofs.Ytbafbpfpnfnikaa.Given
