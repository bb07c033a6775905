/- The walk of hamperlaw23.SealNames: the examples, the limits, the errors. Conditions: none (closed). -/
import Derived.Test.YtdegeodegjmddaaSealN
import Derived.Deep.RegionHeld3
namespace Go.Proofs.Ytdegeodegjmddaa.Given
open Go.RowKit Go.Proofs.YtdegeodegjmddaaW.PrintWords Go.Proofs.YtdegeodegjmddaaW.PrintLast Go.Proofs.YtdegeodegjmddaaW.PrintMore
open Go.Proofs.Ytdegeodegjmddaa.Row Go.Proofs.Ytdegeodegjmddaa.Row.At Go.Proofs.Ytdegeodegjmddaa.Cbc
set_option maxRecDepth 100000
set_option linter.unusedVariables false
set_option linter.unusedSimpArgs false
set_option maxHeartbeats 8000000 in
theorem SealNames_walk (w : World) :
    Calls Try.prog 7 #[] w fun e w' => e = .returned (.bool true) ∧ Below w.heap.size w w' := by
  have HB : Aside0 (Below w.heap.size w w) := ⟨Below.refl _ _⟩
  obtain ⟨z, hz⟩ : ∃ x, x = manyW 16 0 := ⟨_, rfl⟩
  have zz : z.size = 16 := by rw [hz, manyW_size]
  obtain ⟨s15, hs15⟩ : ∃ x, x = manyW 15 0 := ⟨_, rfl⟩
  have zs15 : s15.size = 15 := by rw [hs15, manyW_size]
  obtain ⟨i17, hi17⟩ : ∃ x, x = manyW 17 0 := ⟨_, rfl⟩
  have zi17 : i17.size = 17 := by rw [hi17, manyW_size]
  obtain ⟨p64, hp64⟩ : ∃ x, x = manyW 64 112 := ⟨_, rfl⟩
  have zp64 : p64.size = 64 := by rw [hp64, manyW_size]
  obtain ⟨p65, hp65⟩ : ∃ x, x = manyW 65 112 := ⟨_, rfl⟩
  have zp65 : p65.size = 65 := by rw [hp65, manyW_size]
  obtain ⟨big, hbig⟩ : ∃ x, x = manyW 1048577 97 := ⟨_, rfl⟩
  have zbig : big.size = 1048577 := by rw [hbig, manyW_size]
  obtain ⟨mx, hmx⟩ : ∃ x, x = manyW 1048576 97 := ⟨_, rfl⟩
  have zmx : mx.size = 1048576 := by rw [hmx, manyW_size]
  obtain ⟨q99, hq99⟩ : ∃ x, x = manyW 99 113 := ⟨_, rfl⟩
  have zq99 : q99.size = 99 := by rw [hq99, manyW_size]
  obtain ⟨s, hs⟩ : ∃ x, x = lockW ⟨#[]⟩ p64 z z 64 := ⟨_, rfl⟩
  have zs : s.size = 58 := by rw [hs, lockW_size _ _ _ _ _ zz zz, frameW_size]; rfl
  have BYZ : ∀ (p : ByteArray) (r : Int) (w : World), Calls Try.prog 15 #[.string p, .int .i64 r] w fun e w' => e = .returned (.agg #[.string p, .string z, .string z, .int .i64 r]) ∧ Below w.heap.size w w' := fun p r w => by rw [hz]; exact by_any p r w
  have B1 : Aside0 (∀ w, Calls Try.prog 15 #[.string ⟨#[112]⟩, .int .i64 1] w fun e w' => e = .returned (.agg #[.string ⟨#[112]⟩, .string z, .string z, .int .i64 1]) ∧ Below w.heap.size w w') := ⟨fun w => BYZ _ _ w⟩
  have B2 : Aside0 (∀ w, Calls Try.prog 15 #[.string ⟨#[112]⟩, .int .i64 1] w fun e w' => e = .returned (.agg #[.string ⟨#[112]⟩, .string z, .string z, .int .i64 1]) ∧ Below w.heap.size w w') := ⟨fun w => BYZ _ _ w⟩
  have B3 : Aside0 (∀ w, Calls Try.prog 15 #[.string ⟨#[112]⟩, .int .i64 0] w fun e w' => e = .returned (.agg #[.string ⟨#[112]⟩, .string z, .string z, .int .i64 0]) ∧ Below w.heap.size w w') := ⟨fun w => BYZ _ _ w⟩
  have B4 : Aside0 (∀ w, Calls Try.prog 15 #[.string ⟨#[112]⟩, .int .i64 65] w fun e w' => e = .returned (.agg #[.string ⟨#[112]⟩, .string z, .string z, .int .i64 65]) ∧ Below w.heap.size w w') := ⟨fun w => BYZ _ _ w⟩
  have B5 : Aside0 (∀ w, Calls Try.prog 15 #[.string p65, .int .i64 1] w fun e w' => e = .returned (.agg #[.string p65, .string z, .string z, .int .i64 1]) ∧ Below w.heap.size w w') := ⟨fun w => BYZ _ _ w⟩
  have B6 : Aside0 (∀ w, Calls Try.prog 15 #[.string ⟨#[112]⟩, .int .i64 0] w fun e w' => e = .returned (.agg #[.string ⟨#[112]⟩, .string z, .string z, .int .i64 0]) ∧ Below w.heap.size w w') := ⟨fun w => BYZ _ _ w⟩
  have B7 : Aside0 (∀ w, Calls Try.prog 15 #[.string p64, .int .i64 64] w fun e w' => e = .returned (.agg #[.string p64, .string z, .string z, .int .i64 64]) ∧ Below w.heap.size w w') := ⟨fun w => BYZ _ _ w⟩
  have M1 : Aside0 (∀ w, Calls Try.prog 16 #[.int .i64 15, .int .u8 0] w fun e w' => e = .returned (.string s15) ∧ Below w.heap.size w w') := ⟨fun w => by rw [hs15]; exact many_any 15 0 (by decide) w⟩
  have M2 : Aside0 (∀ w, Calls Try.prog 16 #[.int .i64 17, .int .u8 0] w fun e w' => e = .returned (.string i17) ∧ Below w.heap.size w w') := ⟨fun w => by rw [hi17]; exact many_any 17 0 (by decide) w⟩
  have M3 : Aside0 (∀ w, Calls Try.prog 16 #[.int .i64 65, .int .u8 112] w fun e w' => e = .returned (.string p65) ∧ Below w.heap.size w w') := ⟨fun w => by rw [hp65]; exact many_any 65 112 (by decide) w⟩
  have M4 : Aside0 (∀ w, Calls Try.prog 16 #[.int .i64 1048577, .int .u8 97] w fun e w' => e = .returned (.string big) ∧ Below w.heap.size w w') := ⟨fun w => by rw [hbig]; exact many_any 1048577 97 (by decide) w⟩
  have M5 : Aside0 (∀ w, Calls Try.prog 16 #[.int .i64 1048576, .int .u8 97] w fun e w' => e = .returned (.string mx) ∧ Below w.heap.size w w') := ⟨fun w => by rw [hmx]; exact many_any 1048576 97 (by decide) w⟩
  have M6 : Aside0 (∀ w, Calls Try.prog 16 #[.int .i64 1048577, .int .u8 97] w fun e w' => e = .returned (.string big) ∧ Below w.heap.size w w') := ⟨fun w => by rw [hbig]; exact many_any 1048577 97 (by decide) w⟩
  have M7 : Aside0 (∀ w, Calls Try.prog 16 #[.int .i64 64, .int .u8 112] w fun e w' => e = .returned (.string p64) ∧ Below w.heap.size w w') := ⟨fun w => by rw [hp64]; exact many_any 64 112 (by decide) w⟩
  have M8 : Aside0 (∀ w, Calls Try.prog 16 #[.int .i64 64, .int .u8 112] w fun e w' => e = .returned (.string p64) ∧ Below w.heap.size w w') := ⟨fun w => by rw [hp64]; exact many_any 64 112 (by decide) w⟩
  have M10 : Aside0 (∀ w, Calls Try.prog 16 #[.int .i64 64, .int .u8 112] w fun e w' => e = .returned (.string p64) ∧ Below w.heap.size w w') := ⟨fun w => by rw [hp64]; exact many_any 64 112 (by decide) w⟩
  have M11 : Aside0 (∀ w, Calls Try.prog 16 #[.int .i64 64, .int .u8 112] w fun e w' => e = .returned (.string p64) ∧ Below w.heap.size w w') := ⟨fun w => by rw [hp64]; exact many_any 64 112 (by decide) w⟩
  have M12 : Aside0 (∀ w, Calls Try.prog 16 #[.int .i64 64, .int .u8 112] w fun e w' => e = .returned (.string p64) ∧ Below w.heap.size w w') := ⟨fun w => by rw [hp64]; exact many_any 64 112 (by decide) w⟩
  have M9 : Aside0 (∀ w, Calls Try.prog 16 #[.int .i64 65, .int .u8 112] w fun e w' => e = .returned (.string p65) ∧ Below w.heap.size w w') := ⟨fun w => by rw [hp65]; exact many_any 65 112 (by decide) w⟩
  have M13 : Aside0 (∀ w, Calls Try.prog 16 #[.int .i64 99, .int .u8 113] w fun e w' => e = .returned (.string q99) ∧ Below w.heap.size w w') := ⟨fun w => by rw [hq99]; exact many_any 99 113 (by decide) w⟩
  have E0 : Aside0 (∀ w, Calls Try.prog 10 #[.string ⟨#[]⟩, .agg #[.string ⟨#[112]⟩, .string s15, .string z, .int .i64 1]] w fun e w' => e = .returned (.tuple #[.string ⟨#[]⟩, .int .i64 1]) ∧ Below w.heap.size w w') := ⟨fun w => seal_Lock.calls _ _ _ _ _ _ _ w (by unfold seal_Lock.f; rw [if_neg (by decide), if_neg (by decide), if_pos zz, if_neg (by omega)])⟩
  have E1 : Aside0 (∀ w, Calls Try.prog 10 #[.string ⟨#[]⟩, .agg #[.string ⟨#[112]⟩, .string z, .string i17, .int .i64 1]] w fun e w' => e = .returned (.tuple #[.string ⟨#[]⟩, .int .i64 1]) ∧ Below w.heap.size w w') := ⟨fun w => seal_Lock.calls _ _ _ _ _ _ _ w (by unfold seal_Lock.f; rw [if_neg (by decide), if_neg (by decide), if_neg (by omega)])⟩
  have E2 : Aside0 (∀ w, Calls Try.prog 10 #[.string ⟨#[]⟩, .agg #[.string ⟨#[112]⟩, .string z, .string z, .int .i64 0]] w fun e w' => e = .returned (.tuple #[.string ⟨#[]⟩, .int .i64 1]) ∧ Below w.heap.size w w') := ⟨fun w => seal_Lock.calls _ _ _ _ _ _ _ w (by unfold seal_Lock.f; rw [if_neg (by decide), if_neg (by decide), if_pos zz, if_neg (by omega)])⟩
  have E3 : Aside0 (∀ w, Calls Try.prog 10 #[.string ⟨#[]⟩, .agg #[.string ⟨#[112]⟩, .string z, .string z, .int .i64 65]] w fun e w' => e = .returned (.tuple #[.string ⟨#[]⟩, .int .i64 1]) ∧ Below w.heap.size w w') := ⟨fun w => seal_Lock.calls _ _ _ _ _ _ _ w (by unfold seal_Lock.f; rw [if_neg (by decide), if_neg (by decide), if_pos zz, if_neg (by omega)])⟩
  have E4 : Aside0 (∀ w, Calls Try.prog 10 #[.string ⟨#[]⟩, .agg #[.string p65, .string z, .string z, .int .i64 1]] w fun e w' => e = .returned (.tuple #[.string ⟨#[]⟩, .int .i64 1]) ∧ Below w.heap.size w w') := ⟨fun w => seal_Lock.calls _ _ _ _ _ _ _ w (by unfold seal_Lock.f; rw [if_neg (by decide), if_neg (by omega), if_pos zz, if_neg (by omega)])⟩
  have L1 : Aside0 (∀ w, Calls Try.prog 10 #[.string ⟨#[]⟩, .agg #[.string ⟨#[]⟩, .string s15, .string z, .int .i64 1]] w fun e w' => e = .returned (.tuple #[.string ⟨#[0]⟩, .int .i64 0]) ∧ Below w.heap.size w w') := ⟨fun w => seal_Lock.calls _ _ _ _ _ _ _ w (by unfold seal_Lock.f; rw [if_neg (by decide), if_pos (by rfl)]; rfl)⟩
  have L2 : Aside0 (∀ w, Calls Try.prog 10 #[.string big, .agg #[.string ⟨#[112]⟩, .string z, .string z, .int .i64 0]] w fun e w' => e = .returned (.tuple #[.string ⟨#[]⟩, .int .i64 40]) ∧ Below w.heap.size w w') := ⟨fun w => seal_Lock.calls _ _ _ _ _ _ _ w (by unfold seal_Lock.f; rw [if_pos (by omega)])⟩
  have L3 : Aside0 (∀ w, Calls Try.prog 10 #[.string mx, .agg #[.string ⟨#[]⟩, .string ⟨#[]⟩, .string ⟨#[]⟩, .int .i64 0]] w fun e w' => e = .returned (.tuple #[.string (⟨#[0]⟩ ++ mx), .int .i64 0]) ∧ Below w.heap.size w w') := ⟨fun w => seal_Lock.calls _ _ _ _ _ _ _ w (by unfold seal_Lock.f; rw [if_neg (by omega), if_pos (by rfl)])⟩
  have L4 : Aside0 (∀ w, Calls Try.prog 10 #[.string ⟨#[]⟩, .agg #[.string p64, .string z, .string z, .int .i64 64]] w fun e w' => e = .returned (.tuple #[.string s, .int .i64 0]) ∧ Below w.heap.size w w') := ⟨fun w => seal_Lock.calls _ _ _ _ _ _ _ w (by unfold seal_Lock.f; rw [if_neg (by decide), if_neg (by omega), if_pos zz, if_pos ⟨by omega, zz, by decide, by decide⟩, hs])⟩
  have b0big : begins (⟨#[0]⟩ ++ big) 0 = true := by unfold begins Lib.hasPrefix; simp
  have zb : ((⟨#[0]⟩ : ByteArray) ++ big).size = 1048578 := by rw [ByteArray.size_append, zbig]; rfl
  have O1 : Aside0 (∀ w, Calls Try.prog 11 #[.string (⟨#[0]⟩ ++ big), .string ⟨#[]⟩] w fun e w' => e = .returned (.tuple #[.string ⟨#[]⟩, .int .i64 4]) ∧ Below w.heap.size w w') := ⟨fun w => seal_Open.calls _ _ _ _ w (by unfold seal_Open.f; rw [if_pos b0big, if_neg (by omega)])⟩
  have O2 : Aside0 (∀ w, Calls Try.prog 11 #[.string s, .string p64] w fun e w' => e = .returned (.tuple #[.string ⟨#[]⟩, .int .i64 0]) ∧ Below w.heap.size w w') := ⟨fun w => seal_Open.calls _ _ _ _ w (by rw [hs]; exact open_lock _ _ _ _ _ (by decide) (by omega) (by omega) zz zz (by decide) (by decide))⟩
  have O3 : Aside0 (∀ w, Calls Try.prog 11 #[.string s, .string p65] w fun e w' => e = .returned (.tuple #[.string ⟨#[]⟩, .int .i64 61]) ∧ Below w.heap.size w w') := ⟨fun w => seal_Open.calls _ _ _ _ w (by rw [open_head s p64 z z p65 _ 64 (by rw [hs]; exact lockW_list _ _ _ _ _) zz zz (by decide) (by decide), if_pos (.inl (by omega))])⟩
  have O4 : Aside0 (∀ w, Calls Try.prog 11 #[.string (s.extract 0 41), .string p64] w fun e w' => e = .returned (.tuple #[.string ⟨#[]⟩, .int .i64 4]) ∧ Below w.heap.size w w') := ⟨fun w => seal_Open.calls _ _ _ _ w (by rw [hs]; exact open_cut _ _ _ _ _ 41 (by decide) (by decide))⟩
  have O5 : Aside0 (∀ w, Calls Try.prog 11 #[.string (s.extract 0 42), .string p64] w fun e w' => e = .returned (.tuple #[.string ⟨#[]⟩, .int .i64 4]) ∧ Below w.heap.size w w') := ⟨fun w => seal_Open.calls _ _ _ _ w (by rw [hs]; exact open_trim _ _ _ _ _ 0 (by omega) (by omega) zz zz (by decide) (by decide) (by omega) (.inl rfl))⟩
  have O6 : Aside0 (∀ w, Calls Try.prog 11 #[.string (s.extract 0 57), .string p64] w fun e w' => e = .returned (.tuple #[.string ⟨#[]⟩, .int .i64 4]) ∧ Below w.heap.size w w') := ⟨fun w => seal_Open.calls _ _ _ _ w (by rw [hs]; exact open_trim _ _ _ _ _ 15 (by omega) (by omega) zz zz (by decide) (by decide) (by rw [frameW_size]; decide) (.inr (by decide)))⟩
  have O7 : Aside0 (∀ w, Calls Try.prog 11 #[.string (s.extract 0 1 ++ ⟨#[0]⟩ ++ s.extract 2 58), .string ⟨#[]⟩] w fun e w' => e = .returned (.tuple #[.string ⟨#[]⟩, .int .i64 4]) ∧ Below w.heap.size w w') := ⟨fun w => seal_Open.calls _ _ _ _ w (by rw [hs]; exact lock_turned _ _ _ _ _ 0 _ 58 (by rw [← hs]; exact zs) (by decide) (.inl (by decide)))⟩
  have O8 : Aside0 (∀ w, Calls Try.prog 11 #[.string (s.extract 0 1 ++ ⟨#[65]⟩ ++ s.extract 2 58), .string ⟨#[]⟩] w fun e w' => e = .returned (.tuple #[.string ⟨#[]⟩, .int .i64 4]) ∧ Below w.heap.size w w') := ⟨fun w => seal_Open.calls _ _ _ _ w (by rw [hs]; exact lock_turned _ _ _ _ _ 65 _ 58 (by rw [← hs]; exact zs) (by decide) (.inr (by decide)))⟩
  have O9 : Aside0 (∀ w, Calls Try.prog 11 #[.string ⟨#[2, 97, 98]⟩, .string ⟨#[112]⟩] w fun e w' => e = .returned (.tuple #[.string ⟨#[]⟩, .int .i64 4]) ∧ Below w.heap.size w w') := ⟨fun w => seal_Open.calls _ _ _ _ w (by exact open_other _ _ (by decide) (by decide))⟩
  have O10 : Aside0 (∀ w, Calls Try.prog 11 #[.string ⟨#[0, 97, 98]⟩, .string q99] w fun e w' => e = .returned (.tuple #[.string ⟨#[97, 98]⟩, .int .i64 0]) ∧ Below w.heap.size w w') := ⟨fun w => seal_Open.calls _ _ _ _ w (by exact open_zero ⟨#[97, 98]⟩ _ (by decide))⟩
  have b1s : begins s 1 = true := by rw [hs]; unfold begins Lib.hasPrefix; rw [lockW_list, lockH]; rfl
  have K1 : Aside0 (∀ w, Calls Try.prog 14 #[.string s] w fun e w' => e = .returned (.bool true) ∧ w' = w) := ⟨fun w => by have := locked_any s w; rwa [show begins s 1 = true from b1s] at this⟩
  have K2 : Aside0 (∀ w, Calls Try.prog 14 #[.string ⟨#[0]⟩] w fun e w' => e = .returned (.bool false) ∧ w' = w) := ⟨fun w => by have := locked_any ⟨#[0]⟩ w; rwa [show begins ⟨#[0]⟩ 1 = false from by decide] at this⟩
  have K3 : Aside0 (∀ w, Calls Try.prog 14 #[.string ⟨#[]⟩] w fun e w' => e = .returned (.bool false) ∧ w' = w) := ⟨fun w => by have := locked_any ⟨#[]⟩ w; rwa [show begins ⟨#[]⟩ 1 = false from by decide] at this⟩
  have l1 : 1 + big.size ≤ 9223372036854775807 := by omega
  have l1b : (9223372036854775807 < 1 + big.size) = False := eq_false (by omega)
  have l3 : (s.size : Int) = 58 := by omega
  clear hz hs15 hi17 hp64 hp65 hbig hmx hq99 hs BYZ b0big zb b1s zz zs15 zi17 zp64 zp65 zbig zmx zq99 zs
  go_enter Try.func7, Try.ntmps7
  go_wp2_with (first
    | (go_at_call 9; (with_reducible refine (works_any _).mono ?_); rintro e w1 ⟨rfl, hb⟩; have n1 := Aside0.mk (HB.out.trans (hb.mono HB.out.size)); clear HB hb; have HB := n1; clear n1)
    | (go_at_call 15; (with_reducible refine (B1.out _).mono ?_); rintro e w2 ⟨rfl, hb⟩; have n1 := Aside0.mk (HB.out.trans (hb.mono HB.out.size)); clear HB hb; have HB := n1; clear n1; have HZ := Aside0.mk HB.out.size; have HG1 := Aside0.mk HB.out.size; have n1 : Aside0 (Below w.heap.size w (w2.alloc (.cells #[.string ⟨#[]⟩, .string ⟨#[]⟩, .string ⟨#[]⟩, .int .i64 0] 23 (0, 0)))) := ⟨HB.out.alloc HB.out.size _⟩; clear HB; have HB := n1; clear n1; have H1 : Aside0 (At (w2.alloc (.cells #[.string ⟨#[]⟩, .string ⟨#[]⟩, .string ⟨#[]⟩, .int .i64 0] 23 (0, 0))) w2.heap.size 23 [.string ⟨#[]⟩, .string ⟨#[]⟩, .string ⟨#[]⟩, .int .i64 0]) := ⟨At.newAt rfl⟩; clear B1)
    | (refine H1.out.store _ _ _ [.string ⟨#[112]⟩, .string z, .string z, .int .i64 1] rfl rfl rfl rfl rfl infoLock (by intro v hv; simp only [List.mem_cons, List.not_mem_nil, or_false] at hv; rcases hv with rfl | rfl | rfl | rfl <;> rfl) ?_; have n2 := Aside0.mk (H1.out.setRow [.string ⟨#[112]⟩, .string z, .string z, .int .i64 1]); have n1 := Aside0.mk (At.row_below (g := w2.heap.size) HB.out HZ.out [.string ⟨#[112]⟩, .string z, .string z, .int .i64 1].toArray); clear HB H1 HZ; have HB := n1; have H1 := n2; clear n1 n2; have HS1 : Aside0 True := ⟨trivial⟩)
    | (go_at_call 16; (with_reducible refine (M1.out _).mono ?_); rintro e w3 ⟨rfl, hb⟩; have n1 := Aside0.mk (HB.out.trans (hb.mono HB.out.size)); have n2 := Aside0.mk (at_go1 H1.out hb); clear HB H1 hb; have HB := n1; have H1 := n2; clear n1 n2; have c1 := H1.out.cell 1 _ rfl; have f1 := H1.out.frozen 1; have n2 : Aside0 (At (w3.setCell ⟨w2.heap.size, 1, none⟩ (.string s15)) w2.heap.size 23 [.string ⟨#[112]⟩, .string s15, .string z, .int .i64 1]) := ⟨H1.out.set 1 _⟩; have n1 : Aside0 (Below w.heap.size w (w3.setCell ⟨w2.heap.size, 1, none⟩ (.string s15))) := ⟨HB.out.setCell HG1.out _⟩; clear HB H1; have HB := n1; have H1 := n2; clear n1 n2; clear M1)
    | (go_at_call 15; (with_reducible refine (B2.out _).mono ?_); rintro e w4 ⟨rfl, hb⟩; have n1 := Aside0.mk (HB.out.trans (hb.mono HB.out.size)); have n2 := Aside0.mk (at_go1 H1.out hb); clear HB H1 hb; have HB := n1; have H1 := n2; clear n1 n2; clear c1 f1; have HG2 := Aside0.mk HB.out.size; have HLT := Aside0.mk H1.out.lt; have n1 : Aside0 (Below w.heap.size w (w4.alloc (.cells #[.string ⟨#[]⟩, .string ⟨#[]⟩, .string ⟨#[]⟩, .int .i64 0] 23 (0, 0)))) := ⟨HB.out.alloc HB.out.size _⟩; have n2 := Aside0.mk (H1.out.alloc (.cells #[.string ⟨#[]⟩, .string ⟨#[]⟩, .string ⟨#[]⟩, .int .i64 0] 23 (0, 0))); clear HB H1; have HB := n1; have H1 := n2; clear n1 n2; have H2 : Aside0 (At (w4.alloc (.cells #[.string ⟨#[]⟩, .string ⟨#[]⟩, .string ⟨#[]⟩, .int .i64 0] 23 (0, 0))) w4.heap.size 23 [.string ⟨#[]⟩, .string ⟨#[]⟩, .string ⟨#[]⟩, .int .i64 0]) := ⟨At.newAt rfl⟩; clear B2)
    | (refine H2.out.store _ _ _ [.string ⟨#[112]⟩, .string z, .string z, .int .i64 1] rfl rfl rfl rfl rfl infoLock (by intro v hv; simp only [List.mem_cons, List.not_mem_nil, or_false] at hv; rcases hv with rfl | rfl | rfl | rfl <;> rfl) ?_; have n3 := Aside0.mk (H2.out.setRow [.string ⟨#[112]⟩, .string z, .string z, .int .i64 1]); have n2 := Aside0.mk (H1.out.setRow_other _ [.string ⟨#[112]⟩, .string z, .string z, .int .i64 1] (Nat.ne_of_lt HLT.out)); have n1 := Aside0.mk (At.row_below (g := w4.heap.size) HB.out HG2.out [.string ⟨#[112]⟩, .string z, .string z, .int .i64 1].toArray); clear HB H1 H2; have HB := n1; have H1 := n2; have H2 := n3; clear n1 n2 n3)
    | (go_at_call 16; (with_reducible refine (M2.out _).mono ?_); rintro e w5 ⟨rfl, hb⟩; have n1 := Aside0.mk (HB.out.trans (hb.mono HB.out.size)); have n2 := Aside0.mk (at_go1 H1.out hb); have n3 := Aside0.mk (at_go1 H2.out hb); clear HB H1 H2 hb; have HB := n1; have H1 := n2; have H2 := n3; clear n1 n2 n3; have c1 := H2.out.cell 2 _ rfl; have f1 := H2.out.frozen 2; have n3 : Aside0 (At (w5.setCell ⟨w4.heap.size, 2, none⟩ (.string i17)) w4.heap.size 23 [.string ⟨#[112]⟩, .string z, .string i17, .int .i64 1]) := ⟨H2.out.set 2 _⟩; have n2 : Aside0 (At (w5.setCell ⟨w4.heap.size, 2, none⟩ (.string i17)) w2.heap.size 23 [.string ⟨#[112]⟩, .string s15, .string z, .int .i64 1]) := ⟨H1.out.other _ _ (Nat.ne_of_lt HLT.out)⟩; have n1 : Aside0 (Below w.heap.size w (w5.setCell ⟨w4.heap.size, 2, none⟩ (.string i17))) := ⟨HB.out.setCell HG2.out _⟩; clear HB H1 H2; have HB := n1; have H1 := n2; have H2 := n3; clear n1 n2 n3; clear M2))
  clear c1 f1
  obtain ⟨w6, hw6⟩ : ∃ x, x = (w5.setCell ⟨w4.heap.size, 2, none⟩ (.string i17)) := ⟨_, rfl⟩
  rw [← hw6] at HB H1 H2 ⊢
  clear hw6
  obtain ⟨g1, hg1⟩ : ∃ x, x = w2.heap.size := ⟨_, rfl⟩
  obtain ⟨g2, hg2⟩ : ∃ x, x = w4.heap.size := ⟨_, rfl⟩
  rw [← hg1] at H1 HG1 HLT ⊢
  rw [← hg2] at H2 HG2 HLT ⊢
  clear hg1 hg2
  have a0 := H1.out.cell 0 _ rfl
  have a1 := H1.out.cell 1 _ rfl
  have a2 := H1.out.cell 2 _ rfl
  have a3 := H1.out.cell 3 _ rfl
  have b0 := H2.out.cell 0 _ rfl
  have b1 := H2.out.cell 1 _ rfl
  have b2 := H2.out.cell 2 _ rfl
  have b3 := H2.out.cell 3 _ rfl
  have n1 := Aside0.mk HB.out.drew; have n2 := Aside0.mk H1.out.drew; have n3 := Aside0.mk H2.out.drew; clear HB H1 H2; have HB := n1; have H1 := n2; have H2 := n3; clear n1 n2 n3
  go_region_held3 (fun w' => w'.cell? ⟨g1, 0, none⟩ = some (.string ⟨#[112]⟩) ∧ w'.cell? ⟨g1, 1, none⟩ = some (.string s15) ∧ w'.cell? ⟨g1, 2, none⟩ = some (.string z) ∧ w'.cell? ⟨g1, 3, none⟩ = some (.int .i64 1) ∧ w'.cell? ⟨g2, 0, none⟩ = some (.string ⟨#[112]⟩) ∧ w'.cell? ⟨g2, 1, none⟩ = some (.string z) ∧ w'.cell? ⟨g2, 2, none⟩ = some (.string i17) ∧ w'.cell? ⟨g2, 3, none⟩ = some (.int .i64 1)) (first | (exact ⟨H1.out.cell 0 _ rfl, H1.out.cell 1 _ rfl, H1.out.cell 2 _ rfl, H1.out.cell 3 _ rfl, H2.out.cell 0 _ rfl, H2.out.cell 1 _ rfl, H2.out.cell 2 _ rfl, H2.out.cell 3 _ rfl⟩) | go_keep)
    (first
    | (go_at_call 15; (with_reducible refine (B3.out _).mono ?_); rintro e w7 ⟨rfl, hb⟩; have n1 := Aside0.mk (HB.out.trans (hb.mono HB.out.size)); have n2 := Aside0.mk (at_go1 H1.out hb); have n3 := Aside0.mk (at_go1 H2.out hb); clear HB H1 H2 hb; have HB := n1; have H1 := n2; have H2 := n3; clear n1 n2 n3; clear B3)
    | (go_at_call 15; (with_reducible refine (B4.out _).mono ?_); rintro e w8 ⟨rfl, hb⟩; have n1 := Aside0.mk (HB.out.trans (hb.mono HB.out.size)); have n2 := Aside0.mk (at_go1 H1.out hb); have n3 := Aside0.mk (at_go1 H2.out hb); clear HB H1 H2 hb; have HB := n1; have H1 := n2; have H2 := n3; clear n1 n2 n3; clear B4)
    | (go_at_call 16; (with_reducible refine (M3.out _).mono ?_); rintro e w9 ⟨rfl, hb⟩; have n1 := Aside0.mk (HB.out.trans (hb.mono HB.out.size)); have n2 := Aside0.mk (at_go1 H1.out hb); have n3 := Aside0.mk (at_go1 H2.out hb); clear HB H1 H2 hb; have HB := n1; have H1 := n2; have H2 := n3; clear n1 n2 n3; clear M3)
    | (go_at_call 15; (with_reducible refine (B5.out _).mono ?_); rintro e w10 ⟨rfl, hb⟩; have n1 := Aside0.mk (HB.out.trans (hb.mono HB.out.size)); have n2 := Aside0.mk (at_go1 H1.out hb); have n3 := Aside0.mk (at_go1 H2.out hb); clear HB H1 H2 hb; have HB := n1; have H1 := n2; have H2 := n3; clear n1 n2 n3; clear B5))
  have n1 : Aside0 (Below w.heap.size w (w10.alloc (.cells #[.string ⟨#[112]⟩, .string s15, .string z, .int .i64 1, .string ⟨#[112]⟩, .string z, .string i17, .int .i64 1, .string ⟨#[112]⟩, .string z, .string z, .int .i64 0, .string ⟨#[112]⟩, .string z, .string z, .int .i64 65, .string p65, .string z, .string z, .int .i64 1] 23 (0, 0)))) := ⟨HB.out.alloc HB.out.size _⟩; have n2 := Aside0.mk (H1.out.alloc (.cells #[.string ⟨#[112]⟩, .string s15, .string z, .int .i64 1, .string ⟨#[112]⟩, .string z, .string i17, .int .i64 1, .string ⟨#[112]⟩, .string z, .string z, .int .i64 0, .string ⟨#[112]⟩, .string z, .string z, .int .i64 65, .string p65, .string z, .string z, .int .i64 1] 23 (0, 0))); have n3 := Aside0.mk (H2.out.alloc (.cells #[.string ⟨#[112]⟩, .string s15, .string z, .int .i64 1, .string ⟨#[112]⟩, .string z, .string i17, .int .i64 1, .string ⟨#[112]⟩, .string z, .string z, .int .i64 0, .string ⟨#[112]⟩, .string z, .string z, .int .i64 65, .string p65, .string z, .string z, .int .i64 1] 23 (0, 0))); have HA : Aside0 (At (w10.alloc (.cells #[.string ⟨#[112]⟩, .string s15, .string z, .int .i64 1, .string ⟨#[112]⟩, .string z, .string i17, .int .i64 1, .string ⟨#[112]⟩, .string z, .string z, .int .i64 0, .string ⟨#[112]⟩, .string z, .string z, .int .i64 65, .string p65, .string z, .string z, .int .i64 1] 23 (0, 0))) w10.heap.size 23 [.string ⟨#[112]⟩, .string s15, .string z, .int .i64 1, .string ⟨#[112]⟩, .string z, .string i17, .int .i64 1, .string ⟨#[112]⟩, .string z, .string z, .int .i64 0, .string ⟨#[112]⟩, .string z, .string z, .int .i64 65, .string p65, .string z, .string z, .int .i64 1]) := ⟨At.newAt rfl⟩; clear HB H1 H2; have HB := n1; have H1 := n2; have H2 := n3; clear n1 n2 n3
  clear HG2 HLT a0 a1 a2 a3 b0 b1 b2 b3
  rename_i hH
  clear hH
  obtain ⟨w11, hw11⟩ : ∃ x, x = (w10.alloc (.cells #[.string ⟨#[112]⟩, .string s15, .string z, .int .i64 1, .string ⟨#[112]⟩, .string z, .string i17, .int .i64 1, .string ⟨#[112]⟩, .string z, .string z, .int .i64 0, .string ⟨#[112]⟩, .string z, .string z, .int .i64 65, .string p65, .string z, .string z, .int .i64 1] 23 (0, 0))) := ⟨_, rfl⟩
  rw [← hw11] at HB H1 HA ⊢
  obtain ⟨g3, hg3⟩ : ∃ x, x = w10.heap.size := ⟨_, rfl⟩
  rw [← hg3] at HA ⊢
  clear hw11 hg3 H2
  go_wp2
  go_loopg [65] 5 (fun gg s65 wr => ∃ i : Nat, i + gg = 5 ∧ s65 = .int .i64 i ∧ Below w.heap.size w wr ∧ At wr g1 23 [.string ⟨#[112]⟩, .string s15, .string z, .int .i64 1] ∧ At wr g3 23 [.string ⟨#[112]⟩, .string s15, .string z, .int .i64 1, .string ⟨#[112]⟩, .string z, .string i17, .int .i64 1, .string ⟨#[112]⟩, .string z, .string z, .int .i64 0, .string ⟨#[112]⟩, .string z, .string z, .int .i64 65, .string p65, .string z, .string z, .int .i64 1])
  case atStart => exact ⟨0, by omega, rfl, HB.out, H1.out, HA.out⟩
  case round =>
    obtain ⟨i, hi, rfl, hba, h1a, haa⟩ := hrel
    clear HB H1 HA
    have HB := Aside0.mk hba; have H1 := Aside0.mk h1a; have HA := Aside0.mk haa
    clear hba h1a haa
    cases gk with
    | succ gk =>
      have hi5 : i = 0 ∨ i = 1 ∨ i = 2 ∨ i = 3 ∨ i = 4 := by omega
      have HI := Aside0.mk hi
      clear hi
      clear B6 B7 M4 M5 M6 M7 M8 M9 M10 M11 M12 M13 L1 L2 L3 L4 O1 O2 O3 O4 O5 O6 O7 O8 O9 O10 K1 K2 K3
      have HT : Aside0 (At (wr.alloc (.cells #[.string ⟨#[]⟩, .string ⟨#[]⟩, .string ⟨#[]⟩, .int .i64 0] 23 (0, 0))) wr.heap.size 23 [.string ⟨#[]⟩, .string ⟨#[]⟩, .string ⟨#[]⟩, .int .i64 0]) := ⟨At.newAt rfl⟩
      have HZ := Aside0.mk HB.out.size
      have HX1 := Aside0.mk H1.out.lt
      have HX3 := Aside0.mk HA.out.lt
      rcases hi5 with rfl | rfl | rfl | rfl | rfl
      · clear E1 E2 E3 E4
        have c0 := HA.out.cell 0 _ rfl
        have c1 := HA.out.cell 1 _ rfl
        have c2 := HA.out.cell 2 _ rfl
        have c3 := HA.out.cell 3 _ rfl
        have n1 : Aside0 (Below w.heap.size w (wr.alloc (.cells #[.string ⟨#[]⟩, .string ⟨#[]⟩, .string ⟨#[]⟩, .int .i64 0] 23 (0, 0)))) := ⟨HB.out.alloc HB.out.size _⟩; have n2 := Aside0.mk (H1.out.alloc (.cells #[.string ⟨#[]⟩, .string ⟨#[]⟩, .string ⟨#[]⟩, .int .i64 0] 23 (0, 0))); have n3 := Aside0.mk (HA.out.alloc (.cells #[.string ⟨#[]⟩, .string ⟨#[]⟩, .string ⟨#[]⟩, .int .i64 0] 23 (0, 0))); clear HB H1 HA; have HB := n1; have H1 := n2; have HA := n3; clear n1 n2 n3
        go_wp2_with (first
          | (refine HT.out.store _ _ _ [.string ⟨#[112]⟩, .string s15, .string z, .int .i64 1] rfl rfl rfl rfl rfl infoLock (by intro v hv; simp only [List.mem_cons, List.not_mem_nil, or_false] at hv; rcases hv with rfl | rfl | rfl | rfl <;> rfl) ?_; have n0 := Aside0.mk (HT.out.setRow [.string ⟨#[112]⟩, .string s15, .string z, .int .i64 1]); have n3 := Aside0.mk (HA.out.setRow_other _ [.string ⟨#[112]⟩, .string s15, .string z, .int .i64 1] (Nat.ne_of_lt HX3.out)); have n2 := Aside0.mk (H1.out.setRow_other _ [.string ⟨#[112]⟩, .string s15, .string z, .int .i64 1] (Nat.ne_of_lt HX1.out)); have n1 := Aside0.mk (At.row_below (g := wr.heap.size) HB.out HZ.out [.string ⟨#[112]⟩, .string s15, .string z, .int .i64 1].toArray); clear HB H1 HA HT HZ HX1 HX3; have HB := n1; have H1 := n2; have HA := n3; clear n1 n2 n3; have d0 := n0.out.cell 0 _ rfl; have d1 := n0.out.cell 1 _ rfl; have d2 := n0.out.cell 2 _ rfl; have d3 := n0.out.cell 3 _ rfl; clear n0 c0 c1 c2 c3)
          | (go_at_call 10; (with_reducible refine (E0.out _).mono ?_); rintro e w12 ⟨rfl, hb⟩; have n1 := Aside0.mk (HB.out.trans (hb.mono HB.out.size)); have n2 := Aside0.mk (at_go1 H1.out hb); have n3 := Aside0.mk (at_go1 HA.out hb); clear HB H1 HA hb; have HB := n1; have H1 := n2; have HA := n3; clear n1 n2 n3; clear E0))
        go_roundg gk
        case measure => omega
        case rel => exact ⟨1, by have := HI.out; omega, rfl, HB.out, H1.out, HA.out⟩
      · clear E0 E2 E3 E4
        have c0 := HA.out.cell 4 _ rfl
        have c1 := HA.out.cell 5 _ rfl
        have c2 := HA.out.cell 6 _ rfl
        have c3 := HA.out.cell 7 _ rfl
        have n1 : Aside0 (Below w.heap.size w (wr.alloc (.cells #[.string ⟨#[]⟩, .string ⟨#[]⟩, .string ⟨#[]⟩, .int .i64 0] 23 (0, 0)))) := ⟨HB.out.alloc HB.out.size _⟩; have n2 := Aside0.mk (H1.out.alloc (.cells #[.string ⟨#[]⟩, .string ⟨#[]⟩, .string ⟨#[]⟩, .int .i64 0] 23 (0, 0))); have n3 := Aside0.mk (HA.out.alloc (.cells #[.string ⟨#[]⟩, .string ⟨#[]⟩, .string ⟨#[]⟩, .int .i64 0] 23 (0, 0))); clear HB H1 HA; have HB := n1; have H1 := n2; have HA := n3; clear n1 n2 n3
        go_wp2_with (first
          | (refine HT.out.store _ _ _ [.string ⟨#[112]⟩, .string z, .string i17, .int .i64 1] rfl rfl rfl rfl rfl infoLock (by intro v hv; simp only [List.mem_cons, List.not_mem_nil, or_false] at hv; rcases hv with rfl | rfl | rfl | rfl <;> rfl) ?_; have n0 := Aside0.mk (HT.out.setRow [.string ⟨#[112]⟩, .string z, .string i17, .int .i64 1]); have n3 := Aside0.mk (HA.out.setRow_other _ [.string ⟨#[112]⟩, .string z, .string i17, .int .i64 1] (Nat.ne_of_lt HX3.out)); have n2 := Aside0.mk (H1.out.setRow_other _ [.string ⟨#[112]⟩, .string z, .string i17, .int .i64 1] (Nat.ne_of_lt HX1.out)); have n1 := Aside0.mk (At.row_below (g := wr.heap.size) HB.out HZ.out [.string ⟨#[112]⟩, .string z, .string i17, .int .i64 1].toArray); clear HB H1 HA HT HZ HX1 HX3; have HB := n1; have H1 := n2; have HA := n3; clear n1 n2 n3; have d0 := n0.out.cell 0 _ rfl; have d1 := n0.out.cell 1 _ rfl; have d2 := n0.out.cell 2 _ rfl; have d3 := n0.out.cell 3 _ rfl; clear n0 c0 c1 c2 c3)
          | (go_at_call 10; (with_reducible refine (E1.out _).mono ?_); rintro e w12 ⟨rfl, hb⟩; have n1 := Aside0.mk (HB.out.trans (hb.mono HB.out.size)); have n2 := Aside0.mk (at_go1 H1.out hb); have n3 := Aside0.mk (at_go1 HA.out hb); clear HB H1 HA hb; have HB := n1; have H1 := n2; have HA := n3; clear n1 n2 n3; clear E1))
        go_roundg gk
        case measure => omega
        case rel => exact ⟨2, by have := HI.out; omega, rfl, HB.out, H1.out, HA.out⟩
      · clear E0 E1 E3 E4
        have c0 := HA.out.cell 8 _ rfl
        have c1 := HA.out.cell 9 _ rfl
        have c2 := HA.out.cell 10 _ rfl
        have c3 := HA.out.cell 11 _ rfl
        have n1 : Aside0 (Below w.heap.size w (wr.alloc (.cells #[.string ⟨#[]⟩, .string ⟨#[]⟩, .string ⟨#[]⟩, .int .i64 0] 23 (0, 0)))) := ⟨HB.out.alloc HB.out.size _⟩; have n2 := Aside0.mk (H1.out.alloc (.cells #[.string ⟨#[]⟩, .string ⟨#[]⟩, .string ⟨#[]⟩, .int .i64 0] 23 (0, 0))); have n3 := Aside0.mk (HA.out.alloc (.cells #[.string ⟨#[]⟩, .string ⟨#[]⟩, .string ⟨#[]⟩, .int .i64 0] 23 (0, 0))); clear HB H1 HA; have HB := n1; have H1 := n2; have HA := n3; clear n1 n2 n3
        go_wp2_with (first
          | (refine HT.out.store _ _ _ [.string ⟨#[112]⟩, .string z, .string z, .int .i64 0] rfl rfl rfl rfl rfl infoLock (by intro v hv; simp only [List.mem_cons, List.not_mem_nil, or_false] at hv; rcases hv with rfl | rfl | rfl | rfl <;> rfl) ?_; have n0 := Aside0.mk (HT.out.setRow [.string ⟨#[112]⟩, .string z, .string z, .int .i64 0]); have n3 := Aside0.mk (HA.out.setRow_other _ [.string ⟨#[112]⟩, .string z, .string z, .int .i64 0] (Nat.ne_of_lt HX3.out)); have n2 := Aside0.mk (H1.out.setRow_other _ [.string ⟨#[112]⟩, .string z, .string z, .int .i64 0] (Nat.ne_of_lt HX1.out)); have n1 := Aside0.mk (At.row_below (g := wr.heap.size) HB.out HZ.out [.string ⟨#[112]⟩, .string z, .string z, .int .i64 0].toArray); clear HB H1 HA HT HZ HX1 HX3; have HB := n1; have H1 := n2; have HA := n3; clear n1 n2 n3; have d0 := n0.out.cell 0 _ rfl; have d1 := n0.out.cell 1 _ rfl; have d2 := n0.out.cell 2 _ rfl; have d3 := n0.out.cell 3 _ rfl; clear n0 c0 c1 c2 c3)
          | (go_at_call 10; (with_reducible refine (E2.out _).mono ?_); rintro e w12 ⟨rfl, hb⟩; have n1 := Aside0.mk (HB.out.trans (hb.mono HB.out.size)); have n2 := Aside0.mk (at_go1 H1.out hb); have n3 := Aside0.mk (at_go1 HA.out hb); clear HB H1 HA hb; have HB := n1; have H1 := n2; have HA := n3; clear n1 n2 n3; clear E2))
        go_roundg gk
        case measure => omega
        case rel => exact ⟨3, by have := HI.out; omega, rfl, HB.out, H1.out, HA.out⟩
      · clear E0 E1 E2 E4
        have c0 := HA.out.cell 12 _ rfl
        have c1 := HA.out.cell 13 _ rfl
        have c2 := HA.out.cell 14 _ rfl
        have c3 := HA.out.cell 15 _ rfl
        have n1 : Aside0 (Below w.heap.size w (wr.alloc (.cells #[.string ⟨#[]⟩, .string ⟨#[]⟩, .string ⟨#[]⟩, .int .i64 0] 23 (0, 0)))) := ⟨HB.out.alloc HB.out.size _⟩; have n2 := Aside0.mk (H1.out.alloc (.cells #[.string ⟨#[]⟩, .string ⟨#[]⟩, .string ⟨#[]⟩, .int .i64 0] 23 (0, 0))); have n3 := Aside0.mk (HA.out.alloc (.cells #[.string ⟨#[]⟩, .string ⟨#[]⟩, .string ⟨#[]⟩, .int .i64 0] 23 (0, 0))); clear HB H1 HA; have HB := n1; have H1 := n2; have HA := n3; clear n1 n2 n3
        go_wp2_with (first
          | (refine HT.out.store _ _ _ [.string ⟨#[112]⟩, .string z, .string z, .int .i64 65] rfl rfl rfl rfl rfl infoLock (by intro v hv; simp only [List.mem_cons, List.not_mem_nil, or_false] at hv; rcases hv with rfl | rfl | rfl | rfl <;> rfl) ?_; have n0 := Aside0.mk (HT.out.setRow [.string ⟨#[112]⟩, .string z, .string z, .int .i64 65]); have n3 := Aside0.mk (HA.out.setRow_other _ [.string ⟨#[112]⟩, .string z, .string z, .int .i64 65] (Nat.ne_of_lt HX3.out)); have n2 := Aside0.mk (H1.out.setRow_other _ [.string ⟨#[112]⟩, .string z, .string z, .int .i64 65] (Nat.ne_of_lt HX1.out)); have n1 := Aside0.mk (At.row_below (g := wr.heap.size) HB.out HZ.out [.string ⟨#[112]⟩, .string z, .string z, .int .i64 65].toArray); clear HB H1 HA HT HZ HX1 HX3; have HB := n1; have H1 := n2; have HA := n3; clear n1 n2 n3; have d0 := n0.out.cell 0 _ rfl; have d1 := n0.out.cell 1 _ rfl; have d2 := n0.out.cell 2 _ rfl; have d3 := n0.out.cell 3 _ rfl; clear n0 c0 c1 c2 c3)
          | (go_at_call 10; (with_reducible refine (E3.out _).mono ?_); rintro e w12 ⟨rfl, hb⟩; have n1 := Aside0.mk (HB.out.trans (hb.mono HB.out.size)); have n2 := Aside0.mk (at_go1 H1.out hb); have n3 := Aside0.mk (at_go1 HA.out hb); clear HB H1 HA hb; have HB := n1; have H1 := n2; have HA := n3; clear n1 n2 n3; clear E3))
        go_roundg gk
        case measure => omega
        case rel => exact ⟨4, by have := HI.out; omega, rfl, HB.out, H1.out, HA.out⟩
      · clear E0 E1 E2 E3
        have c0 := HA.out.cell 16 _ rfl
        have c1 := HA.out.cell 17 _ rfl
        have c2 := HA.out.cell 18 _ rfl
        have c3 := HA.out.cell 19 _ rfl
        have n1 : Aside0 (Below w.heap.size w (wr.alloc (.cells #[.string ⟨#[]⟩, .string ⟨#[]⟩, .string ⟨#[]⟩, .int .i64 0] 23 (0, 0)))) := ⟨HB.out.alloc HB.out.size _⟩; have n2 := Aside0.mk (H1.out.alloc (.cells #[.string ⟨#[]⟩, .string ⟨#[]⟩, .string ⟨#[]⟩, .int .i64 0] 23 (0, 0))); have n3 := Aside0.mk (HA.out.alloc (.cells #[.string ⟨#[]⟩, .string ⟨#[]⟩, .string ⟨#[]⟩, .int .i64 0] 23 (0, 0))); clear HB H1 HA; have HB := n1; have H1 := n2; have HA := n3; clear n1 n2 n3
        go_wp2_with (first
          | (refine HT.out.store _ _ _ [.string p65, .string z, .string z, .int .i64 1] rfl rfl rfl rfl rfl infoLock (by intro v hv; simp only [List.mem_cons, List.not_mem_nil, or_false] at hv; rcases hv with rfl | rfl | rfl | rfl <;> rfl) ?_; have n0 := Aside0.mk (HT.out.setRow [.string p65, .string z, .string z, .int .i64 1]); have n3 := Aside0.mk (HA.out.setRow_other _ [.string p65, .string z, .string z, .int .i64 1] (Nat.ne_of_lt HX3.out)); have n2 := Aside0.mk (H1.out.setRow_other _ [.string p65, .string z, .string z, .int .i64 1] (Nat.ne_of_lt HX1.out)); have n1 := Aside0.mk (At.row_below (g := wr.heap.size) HB.out HZ.out [.string p65, .string z, .string z, .int .i64 1].toArray); clear HB H1 HA HT HZ HX1 HX3; have HB := n1; have H1 := n2; have HA := n3; clear n1 n2 n3; have d0 := n0.out.cell 0 _ rfl; have d1 := n0.out.cell 1 _ rfl; have d2 := n0.out.cell 2 _ rfl; have d3 := n0.out.cell 3 _ rfl; clear n0 c0 c1 c2 c3)
          | (go_at_call 10; (with_reducible refine (E4.out _).mono ?_); rintro e w12 ⟨rfl, hb⟩; have n1 := Aside0.mk (HB.out.trans (hb.mono HB.out.size)); have n2 := Aside0.mk (at_go1 H1.out hb); have n3 := Aside0.mk (at_go1 HA.out hb); clear HB H1 HA hb; have HB := n1; have H1 := n2; have HA := n3; clear n1 n2 n3; clear E4))
        go_roundg gk
        case measure => omega
        case rel => exact ⟨5, by have := HI.out; omega, rfl, HB.out, H1.out, HA.out⟩
    | zero =>
      obtain rfl : i = 5 := by omega
      clear HA E0 E1 E2 E3 E4 hi
      have c0 := H1.out.cell 0 _ rfl
      have f0 := H1.out.frozen 0
      have n2 : Aside0 (At (wr.setCell ⟨g1, 0, none⟩ (.string ⟨#[]⟩)) g1 23 [.string ⟨#[]⟩, .string s15, .string z, .int .i64 1]) := ⟨H1.out.set 0 _⟩
      have n1 : Aside0 (Below w.heap.size w (wr.setCell ⟨g1, 0, none⟩ (.string ⟨#[]⟩))) := ⟨HB.out.setCell HG1.out _⟩
      clear HB H1
      have HB := n1
      have d0 := n2.out.cell 0 _ rfl
      have d1 := n2.out.cell 1 _ rfl
      have d2 := n2.out.cell 2 _ rfl
      have d3 := n2.out.cell 3 _ rfl
      clear n1 n2
      go_wp2_with (first
        | (go_at_call 10; (with_reducible refine (L1.out _).mono ?_); rintro e w12 ⟨rfl, hb⟩; clear c0 f0 d0 d1 d2 d3; have n1 := Aside0.mk (HB.out.trans (hb.mono HB.out.size)); clear HB hb; have HB := n1; clear n1; clear L1)
        | (go_at_call 16; (with_reducible refine (M4.out _).mono ?_); rintro e w13 ⟨rfl, hb⟩; have n1 := Aside0.mk (HB.out.trans (hb.mono HB.out.size)); clear HB hb; have HB := n1; clear n1; clear M4)
        | (go_at_call 15; (with_reducible refine (B6.out _).mono ?_); rintro e w14 ⟨rfl, hb⟩; have n1 := Aside0.mk (HB.out.trans (hb.mono HB.out.size)); clear HB hb; have HB := n1; clear n1; clear B6)
        | (go_at_call 10; (with_reducible refine (L2.out _).mono ?_); rintro e w15 ⟨rfl, hb⟩; have n1 := Aside0.mk (HB.out.trans (hb.mono HB.out.size)); clear HB hb; have HB := n1; clear n1; clear L2)
        | (go_at_call 16; (with_reducible refine (M5.out _).mono ?_); rintro e w16 ⟨rfl, hb⟩; have n1 := Aside0.mk (HB.out.trans (hb.mono HB.out.size)); clear HB hb; have HB := n1; clear n1; clear M5)
        | (go_at_call 10; (with_reducible refine (L3.out _).mono ?_); rintro e w17 ⟨rfl, hb⟩; have n1 := Aside0.mk (HB.out.trans (hb.mono HB.out.size)); clear HB hb; have HB := n1; clear n1; clear L3)
        | (go_at_call 16; (with_reducible refine (M6.out _).mono ?_); rintro e w18 ⟨rfl, hb⟩; have n1 := Aside0.mk (HB.out.trans (hb.mono HB.out.size)); clear HB hb; have HB := n1; clear n1; clear M6)
        | (go_at_call 11; (with_reducible refine (O1.out _).mono ?_); rintro e w19 ⟨rfl, hb⟩; have n1 := Aside0.mk (HB.out.trans (hb.mono HB.out.size)); clear HB hb; have HB := n1; clear n1; clear O1)
        | (go_at_call 16; (with_reducible refine (M7.out _).mono ?_); rintro e w20 ⟨rfl, hb⟩; have n1 := Aside0.mk (HB.out.trans (hb.mono HB.out.size)); clear HB hb; have HB := n1; clear n1; clear M7)
        | (go_at_call 15; (with_reducible refine (B7.out _).mono ?_); rintro e w21 ⟨rfl, hb⟩; have n1 := Aside0.mk (HB.out.trans (hb.mono HB.out.size)); clear HB hb; have HB := n1; clear n1; clear B7)
        | (go_at_call 10; (with_reducible refine (L4.out _).mono ?_); rintro e w22 ⟨rfl, hb⟩; have n1 := Aside0.mk (HB.out.trans (hb.mono HB.out.size)); clear HB hb; have HB := n1; clear n1; clear L4)
        | (go_at_call 16; (with_reducible refine (M8.out _).mono ?_); rintro e w23 ⟨rfl, hb⟩; have n1 := Aside0.mk (HB.out.trans (hb.mono HB.out.size)); clear HB hb; have HB := n1; clear n1; clear M8)
        | (go_at_call 11; (with_reducible refine (O2.out _).mono ?_); rintro e w24 ⟨rfl, hb⟩; have n1 := Aside0.mk (HB.out.trans (hb.mono HB.out.size)); clear HB hb; have HB := n1; clear n1; clear O2)
        | (go_at_call 16; (with_reducible refine (M9.out _).mono ?_); rintro e w25 ⟨rfl, hb⟩; have n1 := Aside0.mk (HB.out.trans (hb.mono HB.out.size)); clear HB hb; have HB := n1; clear n1; clear M9)
        | (go_at_call 11; (with_reducible refine (O3.out _).mono ?_); rintro e w26 ⟨rfl, hb⟩; have n1 := Aside0.mk (HB.out.trans (hb.mono HB.out.size)); clear HB hb; have HB := n1; clear n1; clear O3))
      have cM : ∀ d os, Calls Try.prog 16 #[.int .i64 64, .int .u8 112] (Go.Sort.grow (redrawn w26 d) os) fun e w'' => e = .returned (.string p64) ∧ ∃ p : Regrown, w'' = Go.Sort.grow (redrawn w26 p.d) p.os := fun d os => Calls.regrown_of (M10.out _)
      have cO : ∀ d os, Calls Try.prog 11 #[.string (s.extract 0 41), .string p64] (Go.Sort.grow (redrawn w26 d) os) fun e w'' => e = .returned (.tuple #[.string ⟨#[]⟩, .int .i64 4]) ∧ ∃ p : Regrown, w'' = Go.Sort.grow (redrawn w26 p.d) p.os := fun d os => Calls.regrown_of (O4.out _)
      refine wp_region_quiet_below (by kernel_rfl) (by kernel_rfl) ?_
      repeat (first | quiet_step (first | exact cM _ _ | exact cO _ _))
      refine wpQuiet_nil ?_
      intro _ hw'
      obtain ⟨⟨dq, osq⟩, hw''⟩ := hw'
      subst hw''
      clear cO O4 cM M10
      have n1 := Aside0.mk (HB.out.trans ((below_regrown w26 dq osq).mono HB.out.size))
      clear HB
      have HB := n1
      clear n1
      obtain ⟨w30, hw30⟩ : ∃ x, x = Go.Sort.grow (redrawn w26 dq) osq := ⟨_, rfl⟩
      rw [← hw30] at HB ⊢
      clear hw30 dq osq
      go_wp2
      have cM : ∀ d os, Calls Try.prog 16 #[.int .i64 64, .int .u8 112] (Go.Sort.grow (redrawn w30 d) os) fun e w'' => e = .returned (.string p64) ∧ ∃ p : Regrown, w'' = Go.Sort.grow (redrawn w30 p.d) p.os := fun d os => Calls.regrown_of (M11.out _)
      have cO : ∀ d os, Calls Try.prog 11 #[.string (s.extract 0 42), .string p64] (Go.Sort.grow (redrawn w30 d) os) fun e w'' => e = .returned (.tuple #[.string ⟨#[]⟩, .int .i64 4]) ∧ ∃ p : Regrown, w'' = Go.Sort.grow (redrawn w30 p.d) p.os := fun d os => Calls.regrown_of (O5.out _)
      refine wp_region_quiet_below (by kernel_rfl) (by kernel_rfl) ?_
      repeat (first | quiet_step (first | exact cM _ _ | exact cO _ _))
      refine wpQuiet_nil ?_
      intro _ hw'
      obtain ⟨⟨dq, osq⟩, hw''⟩ := hw'
      subst hw''
      clear cO O5 cM M11
      have n1 := Aside0.mk (HB.out.trans ((below_regrown w30 dq osq).mono HB.out.size))
      clear HB
      have HB := n1
      clear n1
      obtain ⟨w31, hw31⟩ : ∃ x, x = Go.Sort.grow (redrawn w30 dq) osq := ⟨_, rfl⟩
      rw [← hw31] at HB ⊢
      clear hw31 dq osq
      go_wp2
      have e57 : wrap64 57 = 57 := wrap64_of_bounds (by decide) (by decide)
      have f57 : IntKind.i64.wrap 57 = 57 := by decide
      have cM : ∀ d os, Calls Try.prog 16 #[.int .i64 64, .int .u8 112] (Go.Sort.grow (redrawn w31 d) os) fun e w'' => e = .returned (.string p64) ∧ ∃ p : Regrown, w'' = Go.Sort.grow (redrawn w31 p.d) p.os := fun d os => Calls.regrown_of (M12.out _)
      have cO : ∀ d os, Calls Try.prog 11 #[.string (s.extract 0 57), .string p64] (Go.Sort.grow (redrawn w31 d) os) fun e w'' => e = .returned (.tuple #[.string ⟨#[]⟩, .int .i64 4]) ∧ ∃ p : Regrown, w'' = Go.Sort.grow (redrawn w31 p.d) p.os := fun d os => Calls.regrown_of (O6.out _)
      refine wp_region_quiet_below (by kernel_rfl) (by kernel_rfl) ?_
      repeat (first | quiet_step (first | exact cM _ _ | exact cO _ _))
      refine wpQuiet_nil ?_
      intro _ hw'
      obtain ⟨⟨dq, osq⟩, hw''⟩ := hw'
      subst hw''
      clear cO O6 cM M12
      have n1 := Aside0.mk (HB.out.trans ((below_regrown w31 dq osq).mono HB.out.size))
      clear HB
      have HB := n1
      clear n1
      obtain ⟨w32, hw32⟩ : ∃ x, x = Go.Sort.grow (redrawn w31 dq) osq := ⟨_, rfl⟩
      rw [← hw32] at HB ⊢
      clear hw32 dq osq
      go_wp2
      clear e57 f57
      have l3n : s.size = 58 := by omega
      have q1 : (s.extract 0 1).size = 1 := by rw [ByteArray.size_extract]; omega
      have q2 : (s.extract 2 58).size = 56 := by rw [ByteArray.size_extract]; omega
      have cO : ∀ d os, Calls Try.prog 11 #[.string (s.extract 0 1 ++ ⟨#[0]⟩ ++ s.extract 2 58), .string ⟨#[]⟩] (Go.Sort.grow (redrawn w32 d) os) fun e w'' => e = .returned (.tuple #[.string ⟨#[]⟩, .int .i64 4]) ∧ ∃ p : Regrown, w'' = Go.Sort.grow (redrawn w32 p.d) p.os := fun d os => Calls.regrown_of (O7.out _)
      refine wp_region_quiet_below (by kernel_rfl) (by kernel_rfl) ?_
      repeat (quiet_step (exact cO _ _))
      refine wpQuiet_nil ?_
      intro _ hw'
      obtain ⟨⟨dq, osq⟩, hw''⟩ := hw'
      subst hw''
      clear cO O7
      have n1 := Aside0.mk (HB.out.trans ((below_regrown w32 dq osq).mono HB.out.size))
      clear HB
      have HB := n1
      clear n1
      obtain ⟨w33, hw33⟩ : ∃ x, x = Go.Sort.grow (redrawn w32 dq) osq := ⟨_, rfl⟩
      rw [← hw33] at HB ⊢
      clear hw33 dq osq
      go_wp2
      have cO : ∀ d os, Calls Try.prog 11 #[.string (s.extract 0 1 ++ ⟨#[65]⟩ ++ s.extract 2 58), .string ⟨#[]⟩] (Go.Sort.grow (redrawn w33 d) os) fun e w'' => e = .returned (.tuple #[.string ⟨#[]⟩, .int .i64 4]) ∧ ∃ p : Regrown, w'' = Go.Sort.grow (redrawn w33 p.d) p.os := fun d os => Calls.regrown_of (O8.out _)
      refine wp_region_quiet_below (by kernel_rfl) (by kernel_rfl) ?_
      repeat (quiet_step (exact cO _ _))
      refine wpQuiet_nil ?_
      intro _ hw'
      obtain ⟨⟨dq, osq⟩, hw''⟩ := hw'
      subst hw''
      clear cO O8
      have n1 := Aside0.mk (HB.out.trans ((below_regrown w33 dq osq).mono HB.out.size))
      clear HB
      have HB := n1
      clear n1
      obtain ⟨w34, hw34⟩ : ∃ x, x = Go.Sort.grow (redrawn w33 dq) osq := ⟨_, rfl⟩
      rw [← hw34] at HB ⊢
      clear hw34 dq osq
      go_wp2_with (first
        | (go_at_call 11; (with_reducible refine (O9.out _).mono ?_); rintro e w35 ⟨rfl, hb⟩; have n1 := Aside0.mk (HB.out.trans (hb.mono HB.out.size)); clear HB hb; have HB := n1; clear n1; clear O9)
        | (go_at_call 16; (with_reducible refine (M13.out _).mono ?_); rintro e w36 ⟨rfl, hb⟩; have n1 := Aside0.mk (HB.out.trans (hb.mono HB.out.size)); clear HB hb; have HB := n1; clear n1; clear M13)
        | (go_at_call 11; (with_reducible refine (O10.out _).mono ?_); rintro e w37 ⟨rfl, hb⟩; have n1 := Aside0.mk (HB.out.trans (hb.mono HB.out.size)); clear HB hb; have HB := n1; clear n1; clear O10)
        | (go_at_call 14; (with_reducible refine (K1.out _).mono ?_); rintro e w38 ⟨rfl, rfl⟩; clear K1)
        | (go_at_call 14; (with_reducible refine (K2.out _).mono ?_); rintro e w38 ⟨rfl, rfl⟩; clear K2)
        | (go_at_call 14; (with_reducible refine (K3.out _).mono ?_); rintro e w38 ⟨rfl, rfl⟩; clear K3))
      go_ret
      exact ⟨rfl, HB.out⟩
end Go.Proofs.Ytdegeodegjmddaa.Given
