/- The contract of hamperlaw10.awake: the examples. Conditions: none. -/
import Derived.Test.YtfbcgpgpfpnpnaaCbcQ2
namespace Go.Proofs.Ytfbcgpgpfpnpnaa.Given
open Go.RowKit Go.Proofs.YtfbcgpgpfpnpnaaW.PrintWords Go.Proofs.YtfbcgpgpfpnpnaaW.PrintLast Go.Proofs.YtfbcgpgpfpnpnaaW.PrintMore
open Go.Proofs.Ytfbcgpgpfpnpnaa.Row Go.Proofs.Ytfbcgpgpfpnpnaa.Aes Go.Proofs.Ytfbcgpgpfpnpnaa.Row.At Go.Proofs.Ytfbcgpgpfpnpnaa.Cbc
set_option maxRecDepth 100000
set_option linter.unusedVariables false
set_option linter.unusedSimpArgs false
/-- so many bytes 0 -/
def nul (n : Nat) : ByteArray := bs (List.replicate n 0)
theorem nul_size (n : Nat) : (nul n).size = n := by rw [nul, bs_size, List.length_replicate]
theorem nul_conv (w : World) (g n : Nat) (t : TypeId) (h : ∀ j, j < n → w.cell? ⟨g, j, none⟩ = some (.int .u8 0)) :
    (convert 39 9 (.slice (some ⟨g, 0, none⟩) n n)).run Try.prog w = .ok (.string (nul n)) w := by
  have := run_convert_bytes_back (P := Try.prog) w 39 9 5 ⟨g, 0, none⟩ n (List.replicate n 0) Try.underlying39 Try.underlying5 Try.underlying9 (fun j hj => by
    rw [List.length_replicate] at hj
    rw [Addr.add_mid, Nat.zero_add, h j hj]
    simp)
  rwa [List.length_replicate] at this
theorem nul_at (w X : World) (g n N : Nat) (hX : X.heap[g]? = some (.cells (madeCells #[.int .u8 0] N) 5 (0, 0))) (hn : n ≤ N) :
    (convert 39 9 (.slice (some ⟨g, 0, none⟩) n n)).run Try.prog X = .ok (.string (nul n)) X :=
  nul_conv X g n 5 fun j hj => by
    rw [cell_of_row X g j _ _ _ hX]
    have := congrArg (fun l => l[j]?) (toList_madeCells_one (.int .u8 0) N)
    simp only [List.getElem?_replicate, Array.getElem?_toList] at this
    rw [this, if_pos (by omega)]
def ab : ByteArray := ⟨#[97, 98]⟩
def fr2 : ByteArray := ⟨#[0, 0, 0, 0, 0, 0, 0, 2, 97, 98, 0, 0, 0, 0, 0, 0]⟩
theorem frame_ab : frameW ab = fr2 := by decide +kernel
theorem frame_empty : frameW ⟨#[]⟩ = nul 16 := by decide +kernel
theorem xor_fr2 : xorW fr2 (nul 16) = fr2 := by decide +kernel
theorem unframe_fr2 : unframeR fr2 = (ab, true) := by decide +kernel
theorem extract_all (s : ByteArray) : s.extract 0 s.size = s := by simp
theorem blocksOf_one (s : ByteArray) (h : s.size = 16) : blocksOf s = [s] := by
  have e := extract_all s
  rw [h] at e
  simp [blocksOf, h, e]
theorem seal_one (key first s : ByteArray) (h : s.size = 16) : bs (sealB key first (blocksOf s)).1 = encW key (xorW s first) := by
  rw [blocksOf_one s h]
  simp only [sealB, List.foldl_cons, List.foldl_nil, sealGo, List.nil_append]
  exact bs_data _
theorem fr2_size : fr2.size = 16 := by decide +kernel
theorem awake_seal (w : World) : Calls Try.prog 22 #[.string (nul 32), .string (nul 16), .string ⟨#[97, 98]⟩] w fun e w' => e = .returned (.tuple #[.string (encW (nul 32) fr2), .int .i64 0]) ∧ Below w.heap.size w w' := by
  have := seal_ok (nul 32) (nul 16) ab w (nul_size _) (nul_size _) (by decide)
  rw [frame_ab, seal_one _ _ _ fr2_size, xor_fr2] at this
  exact this
theorem awake_seal0 (w : World) : Calls Try.prog 22 #[.string (nul 32), .string (nul 16), .string ⟨#[]⟩] w fun e w' => e = .returned (.tuple #[.string (encW (nul 32) (xorW (nul 16) (nul 16))), .int .i64 0]) ∧ Below w.heap.size w w' := by
  have := seal_ok (nul 32) (nul 16) ⟨#[]⟩ w (nul_size _) (nul_size _) (by decide)
  rw [frame_empty, seal_one _ _ _ (nul_size _)] at this
  exact this
theorem awake_open (w : World) : Calls Try.prog 24 #[.string (nul 32), .string (nul 16), .string (encW (nul 32) fr2)] w fun e w' => e = .returned (.tuple #[.string ⟨#[97, 98]⟩, .int .i64 0]) ∧ Below w.heap.size w w' := by
  have h := open_ok (nul 32) (nul 16) (encW (nul 32) fr2) w (nul_size _) (nul_size _) (by rw [encW_size]; decide) (by rw [encW_size]) (by rw [encW_size]; decide)
  have e : openR (nul 32) (nul 16) (encW (nul 32) fr2) = (ab, 0) := by
    have e1 : bs (openB (nul 32) (nul 16) (blocksOf (encW (nul 32) fr2))).1 = fr2 := by
      rw [blocksOf_one _ (encW_size _ _)]
      simp only [openB, List.foldl_cons, List.foldl_nil, openGo, List.nil_append]
      rw [bs_data, decW_encW _ _ (nul_size _) fr2_size, xor_fr2]
    unfold openR
    rw [e1, unframe_fr2]
    rfl
  rw [e] at h
  exact h
theorem awake_frame (w : World) : Calls Try.prog 26 #[.string ⟨#[97, 98]⟩] w fun e w' => e = .returned (.string ⟨#[0, 0, 0, 0, 0, 0, 0, 2, 97, 98, 0, 0, 0, 0, 0, 0]⟩) ∧ Below w.heap.size w w' := by
  have := Frame_any ab w (by decide)
  rw [frame_ab] at this
  exact this
theorem awake_frame0 (w : World) : Calls Try.prog 26 #[.string ⟨#[]⟩] w fun e w' => e = .returned (.string (nul 16)) ∧ Below w.heap.size w w' := by
  have := Frame_any ⟨#[]⟩ w (by decide)
  rw [frame_empty] at this
  exact this
theorem awake_enc (g : Nat) (w : World) (h2 : At w g 49 (b8s (cipher (nul 32).data.toList))) :
    Calls Try.prog 14 #[.pointer (some ⟨g, 0, none⟩), .string ⟨#[0, 0, 0, 0, 0, 0, 0, 2, 97, 98, 0, 0, 0, 0, 0, 0]⟩] w fun e w' => e = .returned (.tuple #[.string (encW (nul 32) fr2), .int .i64 0]) ∧ Below w.heap.size w w' :=
  Encrypt_w (nul 32) fr2 (nul_size _) fr2_size g w h2
attribute [irreducible] nul fr2
set_option maxHeartbeats 1000000 in
theorem awake_any (w : World) :
    Calls Try.prog 21 #[] w fun e w' => e = .returned (.bool true) ∧ Below w.heap.size w w' := by
  have h32 : ∀ W : World, (Instr.makeSlice 39 (.int .i64 32) (.int .i64 32)).run Try.prog W = .ok (.slice (some ⟨W.heap.size, 0, none⟩) 32 32) (W.alloc (.cells (madeCells #[.int .u8 0] 32) 5)) := print_make (P := Try.prog) 39 5 .u8 1 Try.underlying39 (by kernel_rfl) (by decide) 32 (by omega)
  have h16 : ∀ W : World, (Instr.makeSlice 39 (.int .i64 16) (.int .i64 16)).run Try.prog W = .ok (.slice (some ⟨W.heap.size, 0, none⟩) 16 16) (W.alloc (.cells (madeCells #[.int .u8 0] 16) 5)) := print_make (P := Try.prog) 39 5 .u8 1 Try.underlying39 (by kernel_rfl) (by decide) 16 (by omega)
  obtain ⟨C32, hC32⟩ : ∃ C, C = Obj.cells (madeCells #[.int .u8 0] 32) 5 (0, 0) := ⟨_, rfl⟩
  obtain ⟨C16, hC16⟩ : ∃ C, C = Obj.cells (madeCells #[.int .u8 0] 16) 5 (0, 0) := ⟨_, rfl⟩
  rw [← hC32] at h32
  rw [← hC16] at h16
  have k1 := nul_at w (w.alloc C32).drew w.heap.size 32 32 (by rw [hC32]; exact heap_alloc_new w _) (by decide)
  have k2 := nul_at w ((w.alloc C32).alloc C16).drew w.heap.size 32 32 (by rw [hC32]; exact (Below.heap_alloc _ _ _ (by simp)).trans (heap_alloc_new w _)) (by decide)
  have k3 := nul_at w ((w.alloc C16).alloc C32).drew (w.heap.size + 1) 32 32 (by rw [hC32]; have e : (w.alloc C16).heap.size = w.heap.size + 1 := (by simp); rw [← e]; exact heap_alloc_new (w.alloc C16) _) (by decide)
  have k4 := nul_at w (w.alloc C16).drew w.heap.size 16 16 (by rw [hC16]; exact heap_alloc_new w _) (by decide)
  have k5 := nul_at w ((w.alloc C16).alloc C32).drew w.heap.size 16 16 (by rw [hC16]; exact (Below.heap_alloc _ _ _ (by simp)).trans (heap_alloc_new w _)) (by decide)
  have k6 := nul_at w ((w.alloc C32).alloc C16).drew (w.heap.size + 1) 16 16 (by rw [hC16]; have e : (w.alloc C32).heap.size = w.heap.size + 1 := (by simp); rw [← e]; exact heap_alloc_new (w.alloc C32) _) (by decide)
  have HB1 : Aside0 (Below w.heap.size w ((w.alloc C32).alloc C16).drew) := ⟨(((Below.refl _ w).alloc (Nat.le_refl _) _).alloc (by simp) _).drew⟩
  have HB2 : Aside0 (Below w.heap.size w ((w.alloc C16).alloc C32).drew) := ⟨(((Below.refl _ w).alloc (Nat.le_refl _) _).alloc (by simp) _).drew⟩
  clear hC32 hC16
  go_enter Try.func21, Try.ntmps21
  go_wp2
  go_region
  all_goals
    first
      | (obtain ⟨wX, hwX⟩ : ∃ wX, wX = ((w.alloc C32).alloc C16).drew := ⟨_, rfl⟩; rw [← hwX] at HB1 ⊢; have HB := HB1; clear hwX HB1 HB2)
      | (obtain ⟨wX, hwX⟩ : ∃ wX, wX = ((w.alloc C16).alloc C32).drew := ⟨_, rfl⟩; rw [← hwX] at HB2 ⊢; have HB := HB2; clear hwX HB1 HB2)
    clear k1 k2 k3 k4 k5 k6 h32 h16
    have z1 : (encW (nul 32) (xorW (nul 16) (nul 16))).size = 16 := encW_size _ _
    go_wp2_with (first
      | (go_at_call 22; (first | (with_reducible refine (awake_seal _).mono ?_) | (with_reducible refine (awake_seal0 _).mono ?_)); rintro e w' ⟨rfl, hb⟩; first | (have n1 := Aside0.mk (HC.out.go hb); clear HC hb; have HC := n1; clear n1) | (have n1 := Aside0.mk (below_go HB.out hb); clear HB hb; have HB := n1; clear n1))
      | (go_at_call 17; (with_reducible refine (new_ok (nul 32) (nul_size _) _).mono ?_); rintro e w' ⟨rfl, hc, hb⟩; have HC := Aside0.mk (Has.mk hc (below_go HB.out hb)); clear HB hc hb)
      | (go_at_call 14; (with_reducible refine (awake_enc _ _ HC.out.cip).mono ?_); rintro e w' ⟨rfl, hb⟩; have n1 := Aside0.mk (HC.out.go hb); clear HC hb; have HC := n1; clear n1)
      | (go_at_call 24; (with_reducible refine (awake_open _).mono ?_); rintro e w' ⟨rfl, hb⟩; have n1 := Aside0.mk (HC.out.go hb); clear HC hb; have HC := n1; clear n1)
      | (go_at_call 26; (first | (with_reducible refine (awake_frame _).mono ?_) | (with_reducible refine (awake_frame0 _).mono ?_)); rintro e w' ⟨rfl, hb⟩; have n1 := Aside0.mk (HC.out.go hb); clear HC hb; have HC := n1; clear n1))
    go_ret
    exact ⟨rfl, HC.out.bel⟩
/-- What hamperlaw10.awake tells. -/
def law10_awake.f : Option Bool := some true
theorem law10_awake.calls (r : Bool) (w : World) (h : law10_awake.f = some r) : Calls Try.prog 21 #[] w fun e w' => e = .returned (.bool r) ∧ Below w.heap.size w w' := by
  obtain rfl := Option.some.inj h
  exact awake_any w
end Go.Proofs.Ytfbcgpgpfpnpnaa.Given
