/- The document's roots: the search of one prime's two roots. Conditions: none. -/
import Derived.Test.YtdegeodegjmddaaZPRoox2
namespace Go.Proofs.Ytdegeodegjmddaa.Roo
open Go.RowKit Go.Proofs.YtdegeodegjmddaaW.PrintWords Go.Proofs.Ytdegeodegjmddaa.PRoo
set_option maxRecDepth 100000
set_option linter.unusedVariables false
set_option linter.unusedSimpArgs false
def sqOK (p x : Int) : Option Bool := (hamperref07_digits.f x).bind fun d => (hamperref07_times.f 100 d d).bind fun t => hamperref07_within.f 100 t p 4
def cuOK (p x : Int) : Option Bool := (hamperref07_digits.f x).bind fun d => (hamperref07_times.f 100 d d).bind fun t => (hamperref07_times.f 100 t d).bind fun u => hamperref07_within.f 100 u p 6
def run (p : Int) : Nat → Int → Int → Int → Option (Int × Int)
  | 0, x, y, add => if add > 0 then none else some (x, y)
  | n + 1, x, y, add => if add > 0 then (sqOK p (IntKind.u64.wrap (x + add))).bind fun s => (cuOK p (IntKind.u64.wrap (y + add))).bind fun c =>
      run p n (if s = true then IntKind.u64.wrap (x + add) else x) (if c = true then IntKind.u64.wrap (y + add) else y) (IntKind.u64.wrap (Int.tdiv add 2)) else none
def fl (p : Int) : Nat → Bool → Int → Option Bool
  | 0, f, d => if IntKind.u64.wrap (d * d) ≤ p then (if f = true then none else some f) else some f
  | n + 1, f, d => if IntKind.u64.wrap (d * d) ≤ p then (if f = true then (if d = 0 then none else fl p n ((Int.tmod p d) != 0) (IntKind.u64.wrap (d + 1))) else some f) else some f
theorem times_at {k : Nat} (hk : 100 ≤ k) {a b r : List Int} (h : hamperref07_times.f 100 a b = some r) : hamperref07_times.f k a b = some r := at_rounds (fun k => hamperref07_times.mono a b k) hk h
theorem within_at {k : Nat} (hk : 100 ≤ k) {a : List Int} {p n : Int} {r : Bool} (h : hamperref07_within.f 100 a p n = some r) : hamperref07_within.f k a p n = some r := at_rounds (fun k => hamperref07_within.mono a p n k) hk h
theorem bind_some' {α β : Type} {o : Option α} {f : α → Option β} {r : β} (h : o.bind f = some r) : ∃ a, o = some a ∧ f a = some r := by
  cases o with
  | none => cases h
  | some a => exact ⟨a, rfl, h⟩
theorem run_l2 (p : Int) (x2 x3 : List Int) (h2 : x2.length < 35184372088832) (h3 : x3.length < 35184372088832) : ∀ n x y add r, run p n x y add = some r → ∀ k, 100 ≤ k →
    hamperref07_Roots.l2 (k + 2 * n + 1) x2 x3 p x y add = hamperref07_Roots.l0 k (x2 ++ [(Int.tmod r.1 4294967296) % 4294967296]) (x3 ++ [(Int.tmod r.2 4294967296) % 4294967296]) (IntKind.u64.wrap (p + 1))
  | 0, x, y, add, r, h, k, hk => by
    rw [run] at h
    split at h
    · cases h
    · rename_i ha
      obtain rfl := Option.some.inj h
      rw [hamperref07_Roots.l2, if_neg ha, if_pos h2, if_pos h3]
  | n + 1, x, y, add, r, h, k, hk => by
    rw [run] at h
    split at h
    · rename_i ha
      obtain ⟨s, hs, h⟩ := bind_some' h
      obtain ⟨c, hc, h⟩ := bind_some' h
      obtain ⟨d, hd, hs⟩ := bind_some' hs
      obtain ⟨t, ht, hs⟩ := bind_some' hs
      obtain ⟨e, he, hc⟩ := bind_some' hc
      obtain ⟨u, hu, hc⟩ := bind_some' hc
      obtain ⟨v, hv, hc⟩ := bind_some' hc
      have ih := run_l2 p x2 x3 h2 h3 n _ _ _ r h k hk
      have e1 : k + 2 * (n + 1) + 1 = (k + 2 * n + 2) + 1 := by omega
      have e2 : k + 2 * n + 2 = (k + 2 * n + 1) + 1 := by omega
      have j : ∀ z, hamperref07_Roots.j4 (k + 2 * n + 2) x2 x3 p z y add = hamperref07_Roots.l2 (k + 2 * n + 1) x2 x3 p z (if c = true then IntKind.u64.wrap (y + add) else y) (IntKind.u64.wrap (Int.tdiv add 2)) := fun z => by
        rw [e2, hamperref07_Roots.j4, he, Option.bind_some, times_at (by omega) hu, Option.bind_some, times_at (by omega) hv, Option.bind_some, within_at (by omega) hc, Option.bind_some]
        by_cases hcc : c = true
        · rw [if_pos hcc, if_pos hcc]
        · rw [if_neg hcc, if_neg hcc]
      rw [e1, hamperref07_Roots.l2, if_pos ha, hd, Option.bind_some, times_at (by omega) ht, Option.bind_some, within_at (by omega) hs, Option.bind_some, j, j]
      by_cases hss : s = true
      · rw [if_pos hss] at ih ⊢
        exact ih
      · rw [if_neg hss] at ih ⊢
        exact ih
    · cases h
theorem fl_l1 (p : Int) (x2 x3 : List Int) : ∀ n f d b, fl p n f d = some b → ∃ j, ∀ k, hamperref07_Roots.l1 (k + j) x2 x3 p f d = hamperref07_Roots.j2 k x2 x3 p b
  | 0, f, d, b, h => by
    rw [fl] at h
    refine ⟨1, fun k => ?_⟩
    rw [hamperref07_Roots.l1]
    split at h
    · rename_i ha
      split at h
      · cases h
      · rename_i hf
        obtain rfl := Option.some.inj h
        rw [if_pos ha, if_neg hf]
    · rename_i ha
      obtain rfl := Option.some.inj h
      rw [if_neg ha]
  | n + 1, f, d, b, h => by
    rw [fl] at h
    split at h
    · rename_i ha
      split at h
      · rename_i hf
        split at h
        · cases h
        · rename_i hd
          obtain ⟨j, hj⟩ := fl_l1 p x2 x3 n _ _ b h
          refine ⟨j + 1, fun k => ?_⟩
          rw [← Nat.add_assoc, hamperref07_Roots.l1, if_pos ha, if_pos hf, if_neg hd, hj]
      · rename_i hf
        obtain rfl := Option.some.inj h
        refine ⟨1, fun k => ?_⟩
        rw [hamperref07_Roots.l1, if_pos ha, if_neg hf]
    · rename_i ha
      obtain rfl := Option.some.inj h
      refine ⟨1, fun k => ?_⟩
      rw [hamperref07_Roots.l1, if_neg ha]
/-- What is told of one number. -/
def Good (p : Int) : Option (Int × Int) → Prop
  | none => fl p 20 true 2 = some false
  | some r => fl p 20 true 2 = some true ∧ run p 37 0 0 68719476736 = some r
def cut (x : Int) : Int := (Int.tmod x 4294967296) % 4294967296
theorem one_l0 (p : Int) (x2 x3 : List Int) (h2 : x2.length < 64) (h3 : x3.length < 64) (s : Option (Int × Int)) (h : Good p s) :
    ∃ j, ∀ k, 100 ≤ k → hamperref07_Roots.l0 (k + j) x2 x3 p = hamperref07_Roots.l0 k (x2 ++ (s.toList.map fun r => cut r.1)) (x3 ++ (s.toList.map fun r => cut r.2)) (IntKind.u64.wrap (p + 1)) := by
  have h3i : (x3.length : Int) < 64 := by omega
  cases s with
  | none =>
    obtain ⟨j, hj⟩ := fl_l1 p x2 x3 20 true 2 false h
    refine ⟨1 + j + 1, fun k hk => ?_⟩
    have e : k + (1 + j + 1) = (k + 1 + j) + 1 := by omega
    rw [e, hamperref07_Roots.l0, if_pos h3i, hj, hamperref07_Roots.j2, if_neg (by decide)]
    simp
  | some r =>
    obtain ⟨j, hj⟩ := fl_l1 p x2 x3 20 true 2 true h.1
    refine ⟨75 + 1 + j + 1, fun k hk => ?_⟩
    have e : k + (75 + 1 + j + 1) = (k + 75 + 1 + j) + 1 := by omega
    rw [e, hamperref07_Roots.l0, if_pos h3i, hj, hamperref07_Roots.j2, if_pos rfl]
    have := run_l2 p x2 x3 (by omega) (by omega) 37 _ _ _ r h.2 k hk
    rw [show k + 75 = k + 2 * 37 + 1 by omega, this]
    rfl
theorem all_l0 : ∀ (l : List (Option (Int × Int))) (p : Nat) (x2 x3 : List Int), (∀ (i : Nat) s, l[i]? = some s → Good ((p + i : Nat) : Int) s) → x2.length + l.length ≤ x2.length + l.length → p + l.length < 100000 →
    (∀ i, i < l.length → (x2 ++ ((l.take i).flatMap fun s => s.toList.map fun r => cut r.1)).length < 64 ∧ (x3 ++ ((l.take i).flatMap fun s => s.toList.map fun r => cut r.2)).length < 64) →
    ∃ j, ∀ k, 100 ≤ k → hamperref07_Roots.l0 (k + j) x2 x3 (p : Int) = hamperref07_Roots.l0 k (x2 ++ (l.flatMap fun s => s.toList.map fun r => cut r.1)) (x3 ++ (l.flatMap fun s => s.toList.map fun r => cut r.2)) ((p + l.length : Nat) : Int)
  | [], p, x2, x3, _, _, _, _ => ⟨0, fun k _ => by simp⟩
  | s :: l, p, x2, x3, hg, _, hp, hl => by
    have h0 := hl 0 (by simp)
    simp only [List.take_zero, List.flatMap_nil, List.append_nil] at h0
    obtain ⟨j1, hj1⟩ := one_l0 (p : Int) x2 x3 h0.1 h0.2 s (by have := hg 0 s rfl; simpa using this)
    have hw : IntKind.u64.wrap ((p : Int) + 1) = ((p + 1 : Nat) : Int) := by rw [IntKind.wrap_u64]; simp at hp; omega
    obtain ⟨j2, hj2⟩ := all_l0 l (p + 1) (x2 ++ (s.toList.map fun r => cut r.1)) (x3 ++ (s.toList.map fun r => cut r.2))
      (fun i t ht => by have := hg (i + 1) t (by simpa using ht); rwa [show p + (i + 1) = p + 1 + i by omega] at this) (Nat.le_refl _) (by simp at hp; omega)
      (fun i hi => by
        have := hl (i + 1) (by simp; omega)
        simpa [List.append_assoc] using this)
    refine ⟨j2 + j1, fun k hk => ?_⟩
    rw [← Nat.add_assoc, hj1 (k + j2) (by omega), hw, hj2 k hk]
    simp only [List.flatMap_cons, List.append_assoc, List.length_cons]
    congr 2
    omega
end Go.Proofs.Ytdegeodegjmddaa.Roo
