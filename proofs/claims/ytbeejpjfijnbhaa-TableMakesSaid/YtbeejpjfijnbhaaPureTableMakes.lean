/- table.Make tells of any lengths what the document's Make tells, and leaves them as they were. Conditions: none but the statement's own. -/
import Derived.Test.YtbeejpjfijnbhaaPTableMakesx1
namespace Go.Proofs.Ytbeejpjfijnbhaa.Pure
open Go.RowKit Go.Proofs.Ytbeejpjfijnbhaa.PTableMakes Go.Proofs.YtbeejpjfijnbhaaW.PrintWords Go.Proofs.YtbeejpjfijnbhaaW.PrintLast Go.Proofs.YtbeejpjfijnbhaaW.PrintMore

/-! what the document's functions come to -/
theorem wrapn {a b : Nat} (h : a + b ≤ 9223372036854775807) : wrap64 ((a : Int) + (b : Int)) = ((a + b : Nat) : Int) := by
  unfold wrap64; omega
theorem wrap1 {a : Nat} (h : a + 1 ≤ 9223372036854775807) : wrap64 ((a : Int) + 1) = ((a + 1 : Nat) : Int) := by
  unfold wrap64; omega
theorem wrap_in {a : Int} (h0 : -9223372036854775808 ≤ a) (h1 : a ≤ 9223372036854775807) : wrap64 a = a := by
  unfold wrap64; omega
theorem bad_false {n : Int} (h : Given.badB n = false) : 0 ≤ n ∧ n ≤ 15 := by
  simp [Given.badB] at h
  omega
theorem rd_nat (l : List Int) (i : Nat) : rd l (i : Int) = l.getD i 0 := by simp [rd]
theorem same_l0 (a b : List Int) (hl : a.length = b.length) (hm : a.length ≤ 9223372036854775807) : ∀ (d i : Nat), i + d = a.length → Ev (fun k => hamperref13_Same.l0 k a b (i : Int)) (decide (a.drop i = b.drop i))
  | 0, i, h => by
    refine Ev.step (f := fun _ => some (decide (a.drop i = b.drop i))) (fun k => ?_) (Ev.now _)
    simp only [hamperref13_Same.l0]
    rw [if_neg (by omega), List.drop_eq_nil_of_le (by omega), List.drop_eq_nil_of_le (by omega)]
    simp
  | d + 1, i, h => by
    have ha : a.drop i = a.getD i 0 :: a.drop (i + 1) := by rw [List.getD_eq_getElem?_getD, List.getElem?_eq_getElem (by omega)]; simp
    have hb : b.drop i = b.getD i 0 :: b.drop (i + 1) := by rw [List.getD_eq_getElem?_getD, List.getElem?_eq_getElem (by omega)]; simp
    by_cases e : a.getD i 0 = b.getD i 0
    · refine Ev.step (f := fun k => hamperref13_Same.l0 k a b ((i + 1 : Nat) : Int)) (fun k => ?_) ?_
      · simp only [hamperref13_Same.l0]
        rw [if_pos (by omega), if_pos (by omega), if_pos (by omega), rd_nat, rd_nat, if_pos e, wrap1 (by omega)]
      · have := same_l0 a b hl hm d (i + 1) (by omega)
        rw [ha, hb, e]
        simpa using this
    · refine Ev.step (f := fun _ => some false) (fun k => ?_) ?_
      · simp only [hamperref13_Same.l0]
        rw [if_pos (by omega), if_pos (by omega), if_pos (by omega), rd_nat, rd_nat, if_neg e]
      · have : decide (a.drop i = b.drop i) = false := by
          rw [ha, hb]
          simp only [decide_eq_false_iff_not, List.cons.injEq]
          exact fun h => e h.1
        rw [this]
        exact Ev.now _
theorem same_ev (a b : List Int) (hm : a.length ≤ 9223372036854775807) : Ev (fun k => hamperref13_Same.f k a b) (decide (a = b)) := by
  by_cases hl : a.length = b.length
  · refine Ev.congr (f := fun k => hamperref13_Same.l0 k a b ((0 : Nat) : Int)) (fun k => ?_) ?_
    · simp only [hamperref13_Same.f]
      rw [if_pos (by omega)]
      rfl
    · simpa using same_l0 a b hl hm a.length 0 (by omega)
  · have : decide (a = b) = false := by
      simp only [decide_eq_false_iff_not]
      exact fun h => hl (by rw [h])
    rw [this]
    refine Ev.congr (f := fun _ => some false) (fun k => ?_) (Ev.now _)
    simp only [hamperref13_Same.f]
    rw [if_neg (by omega)]

/-- The bytes of lengths. -/
def tMake (l : List Int) : List Int := (Given.runsOf l.length l).map Given.runByte
theorem ref_l2 (l out : List Int) (i m : Nat) (x : Int) (r : ByteArray × Int) (hx : l.getD i 0 = x) (hx0 : 0 ≤ x) (hx1 : x ≤ 15) (hi : i + m ≤ l.length) (h1 : 1 ≤ m) (h16 : m ≤ 16) (hl : l.length ≤ 1000000) (ho : out.length ≤ 1000000)
    (hall : ∀ j, j < m → l.getD (i + j) 0 = x) (hstop : m = 16 ∨ i + m = l.length ∨ l.getD (i + m) 0 ≠ x)
    (hnext : Ev (fun k => hamperref13_Make.l1 k l (out ++ [x * 16 + m - 1]) ((i + m : Nat) : Int)) r) :
    ∀ (d n : Nat), n + d = m → Ev (fun k => hamperref13_Make.l2 k l out (i : Int) (n : Int)) r
  | 0, n, h => by
    obtain rfl : n = m := by omega
    have hb : (wrap64 ((wrap64 ((wrap64 (16 * (rd l (i : Int)))) + (n : Int))) - 1)) % 256 = x * 16 + n - 1 := by
      rw [rd_nat, hx, wrap_in (a := 16 * x) (by omega) (by omega), wrap_in (a := 16 * x + (n : Int)) (by omega) (by omega), wrap_in (a := 16 * x + (n : Int) - 1) (by omega) (by omega)]
      omega
    refine Ev.step (f := fun k => hamperref13_Make.l1 k l (out ++ [x * 16 + n - 1]) ((i + n : Nat) : Int)) (fun k => ?_) hnext
    simp only [hamperref13_Make.l2]
    rcases Nat.lt_or_ge n 16 with hlt | hge
    · rw [if_pos (by omega)]
      rcases Nat.lt_or_ge (i + n) l.length with hlt2 | hge2
      · have hne : l.getD (i + n) 0 ≠ x := by
          rcases hstop with h | h | h
          · omega
          · omega
          · exact h
        rw [wrapn (by omega), if_pos (by omega), if_pos (by omega), if_pos (by omega), if_pos (by omega), rd_nat l (i + n), rd_nat l i, hx, if_neg hne, if_pos (by omega)]
        rw [rd_nat, hx] at hb
        rw [hb]
      · rw [wrapn (by omega), if_neg (by omega), if_pos (by omega), if_pos (by omega), if_pos (by omega), hb]
    · rw [if_neg (by omega), if_pos (by omega), if_pos (by omega), if_pos (by omega), hb, wrapn (by omega)]
  | d + 1, n, h => by
    refine Ev.step (f := fun k => hamperref13_Make.l2 k l out (i : Int) ((n + 1 : Nat) : Int)) (fun k => ?_) (ref_l2 l out i m x r hx hx0 hx1 hi h1 h16 hl ho hall hstop hnext d (n + 1) (by omega))
    simp only [hamperref13_Make.l2]
    rw [if_pos (by omega), wrapn (by omega), if_pos (by omega), if_pos (by omega), if_pos (by omega), if_pos (by omega), rd_nat l (i + n), rd_nat l i, hx, hall n (by omega), if_pos rfl, wrap1 (by omega)]
theorem runLen_all (x : Int) : ∀ (f : Nat) (t : List Int) (j : Nat), j < Given.runLen x f t → t.getD j 0 = x
  | 0, _, j, h => by simp [Given.runLen] at h
  | _ + 1, [], j, h => by simp [Given.runLen] at h
  | f + 1, y :: t, j, h => by
    simp only [Given.runLen] at h
    split at h
    · rename_i hy
      cases j with
      | zero => simpa using hy
      | succ j => simpa using runLen_all x f t j (by omega)
    · omega
theorem runLen_stop (x : Int) : ∀ (f : Nat) (t : List Int), Given.runLen x f t = f ∨ Given.runLen x f t = t.length ∨ t.getD (Given.runLen x f t) 0 ≠ x
  | 0, _ => .inl rfl
  | _ + 1, [] => .inr (.inl rfl)
  | f + 1, y :: t => by
    simp only [Given.runLen]
    split
    · rcases runLen_stop x f t with h | h | h
      · exact .inl (by omega)
      · exact .inr (.inl (by simp; omega))
      · exact .inr (.inr (by simpa using h))
    · rename_i h
      exact .inr (.inr (by simpa using h))
theorem ref_l1 (l : List Int) (hl : l.length ≤ 1000000) (hg : ∀ n ∈ l, Given.badB n = false) : ∀ (f i : Nat) (out : List Int), l.length - i ≤ f → i ≤ l.length → out.length ≤ i →
    Ev (fun k => hamperref13_Make.l1 k l out (i : Int)) (strOfNums (out ++ (Given.runsOf f (l.drop i)).map Given.runByte), 0)
  | 0, i, out, h, hi, ho => by
    refine Ev.step (f := fun _ => some (strOfNums out, 0)) (fun k => ?_) ?_
    · simp only [hamperref13_Make.l1]
      rw [if_neg (by omega)]
    · simpa [Given.runsOf] using Ev.now _
  | f + 1, i, out, h, hi, ho => by
    rcases Nat.lt_or_ge i l.length with hlt | hge
    · have hd : l.drop i = l.getD i 0 :: l.drop (i + 1) := by rw [List.getD_eq_getElem?_getD, List.getElem?_eq_getElem (by omega)]; simp
      have hmem : l.getD i 0 ∈ l := by rw [List.getD_eq_getElem?_getD, List.getElem?_eq_getElem hlt]; simp
      have hb := bad_false (hg _ hmem)
      have hle := Given.runLen_le (l.getD i 0) 15 (l.drop (i + 1))
      obtain ⟨q, hq⟩ : ∃ q, q = Given.runLen (l.getD i 0) 15 (l.drop (i + 1)) := ⟨_, rfl⟩
      rw [← hq] at hle
      simp only [List.length_drop] at hle
      have hall := runLen_all (l.getD i 0) 15 (l.drop (i + 1))
      have hstop := runLen_stop (l.getD i 0) 15 (l.drop (i + 1))
      rw [← hq] at hall hstop
      have ih := ref_l1 l hl hg f (i + (q + 1)) (out ++ [l.getD i 0 * 16 + ((q + 1 : Nat) : Int) - 1]) (by omega) (by omega) (by simp; omega)
      refine Ev.step (f := fun k => hamperref13_Make.l2 k l out (i : Int) ((0 : Nat) : Int)) (fun k => ?_) ?_
      · simp only [hamperref13_Make.l1]
        rw [if_pos (by omega)]
        rfl
      · have hr : Given.runsOf (f + 1) (l.drop i) = (l.getD i 0, ((q + 1 : Nat) : Int)) :: Given.runsOf f (l.drop (i + (q + 1))) := by
          rw [hd]
          simp only [Given.runsOf]
          rw [← hq, List.drop_drop, show i + 1 + q = i + (q + 1) by omega]
        rw [hr]
        refine ref_l2 l out i (q + 1) (l.getD i 0) _ rfl (by omega) (by omega) (by omega) (by omega) (by omega) hl (by omega) ?_ ?_ (by simpa [Given.runByte] using ih) (q + 1) 0 (by omega)
        · intro j hj
          cases j with
          | zero => rfl
          | succ j =>
            have := hall j (by omega)
            simp only [List.getD_eq_getElem?_getD, List.getElem?_drop] at this ⊢
            rw [← this, show i + 1 + j = i + (j + 1) by omega]
        · rcases hstop with h | h | h
          · exact .inl (by omega)
          · exact .inr (.inl (by simp at h; omega))
          · refine .inr (.inr ?_)
            simp only [List.getD_eq_getElem?_getD, List.getElem?_drop] at h ⊢
            rw [show i + (q + 1) = i + 1 + q by omega]
            exact h
    · refine Ev.step (f := fun _ => some (strOfNums out, 0)) (fun k => ?_) ?_
      · simp only [hamperref13_Make.l1]
        rw [if_neg (by omega)]
      · rw [List.drop_eq_nil_of_le hge]
        simpa [Given.runsOf] using Ev.now _
theorem ref_l0_ok (l : List Int) (hl : l.length ≤ 1000000) (hg : ∀ n ∈ l, Given.badB n = false) (r : ByteArray × Int) (hr : Ev (fun k => hamperref13_Make.l1 k l [] 0) r) : ∀ (d i : Nat), i + d = l.length → Ev (fun k => hamperref13_Make.l0 k l (i : Int)) r
  | 0, i, h => Ev.step (fun k => by simp only [hamperref13_Make.l0]; rw [if_neg (by omega)]) hr
  | d + 1, i, h => by
    have hmem : l.getD i 0 ∈ l := by rw [List.getD_eq_getElem?_getD, List.getElem?_eq_getElem (by omega)]; simp
    have hb := bad_false (hg _ hmem)
    refine Ev.step (fun k => ?_) (ref_l0_ok l hl hg r hr d (i + 1) (by omega))
    simp only [hamperref13_Make.l0]
    rw [if_pos (by omega), if_pos (by omega), rd_nat, if_neg (by omega), if_neg (by omega), wrap1 (by omega)]
theorem ref_l0_bad (l : List Int) (hl : l.length ≤ 1000000) : ∀ (d i : Nat), i + d = l.length → (∃ n ∈ l.drop i, Given.badB n = true) → Ev (fun k => hamperref13_Make.l0 k l (i : Int)) ((⟨#[]⟩ : ByteArray), 4)
  | 0, i, h, ⟨n, hn, _⟩ => by rw [List.drop_eq_nil_of_le (by omega)] at hn; cases hn
  | d + 1, i, h, ⟨n, hn, hb⟩ => by
    have hd : l.drop i = l.getD i 0 :: l.drop (i + 1) := by rw [List.getD_eq_getElem?_getD, List.getElem?_eq_getElem (by omega)]; simp
    by_cases hc : l.getD i 0 < 0
    · refine Ev.step (f := fun _ => some ((⟨#[]⟩ : ByteArray), 4)) (fun k => ?_) (Ev.now _)
      simp only [hamperref13_Make.l0]
      rw [if_pos (by omega), if_pos (by omega), rd_nat, if_pos hc]
    · by_cases hc2 : l.getD i 0 > 15
      · refine Ev.step (f := fun _ => some ((⟨#[]⟩ : ByteArray), 4)) (fun k => ?_) (Ev.now _)
        simp only [hamperref13_Make.l0]
        rw [if_pos (by omega), if_pos (by omega), rd_nat, if_neg hc, if_pos hc2]
      · refine Ev.step (f := fun k => hamperref13_Make.l0 k l ((i + 1 : Nat) : Int)) (fun k => ?_) (ref_l0_bad l hl d (i + 1) (by omega) ⟨n, ?_, hb⟩)
        · simp only [hamperref13_Make.l0]
          rw [if_pos (by omega), if_pos (by omega), rd_nat, if_neg hc, if_neg hc2, wrap1 (by omega)]
        · rw [hd] at hn
          rcases List.mem_cons.1 hn with h | h
          · rw [h] at hb
            have : Given.badB (l.getD i 0) = false := by unfold Given.badB; exact decide_eq_false (by omega)
            rw [this] at hb
            cases hb
          · exact h
/-- What both tell of lengths. -/
def tSaid (l : List Int) : ByteArray × Int := if l.any Given.badB = true then ((⟨#[]⟩ : ByteArray), 4) else (strOfNums (tMake l), 0)
theorem ref_make (l : List Int) (hl : l.length ≤ 1000000) : Ev (fun k => hamperref13_Make.f k l) (tSaid l) := by
  refine Ev.congr (f := fun k => hamperref13_Make.l0 k l ((0 : Nat) : Int)) (fun k => rfl) ?_
  unfold tSaid
  split
  · rename_i h
    obtain ⟨n, hn, hb⟩ := List.any_eq_true.1 h
    exact ref_l0_bad l hl l.length 0 (by omega) ⟨n, by simpa using hn, hb⟩
  · rename_i h
    have hg : ∀ n ∈ l, Given.badB n = false := by simpa using h
    refine ref_l0_ok l hl hg _ ?_ l.length 0 (by omega)
    have := ref_l1 l hl hg l.length 0 [] (by omega) (by omega) (by simp)
    simpa [tMake] using this
theorem prog_make (l : List Int) (hl : l.length ≤ 1000000) : Given.table_Make.f l = some (tSaid l) := by
  unfold Given.table_Make.f tSaid tMake
  split
  · rfl
  · rw [if_pos (by omega)]
theorem TableMakes : hamperlaw13_TableMakes.Pure := by
  intro l hm h8 hw
  unfold hamperlaw13_TableMakes.f
  by_cases h : (l.length : Int) > 3000
  · exact ⟨0, by rw [if_pos h]⟩
  · obtain ⟨K1, h1⟩ := ref_make l (by omega)
    obtain ⟨K2, h2⟩ := same_ev l l (by omega)
    refine ⟨max K1 K2, ?_⟩
    dsimp only at h1 h2
    rw [if_neg h]
    simp only [Option.bind_some, List.length_nil, Nat.zero_add, List.nil_append]
    rw [if_pos (by omega), prog_make l (by omega)]
    simp only [Option.bind_some]
    rw [h1 _ (Nat.le_max_left _ _)]
    simp only [Option.bind_some, if_true]
    rw [h2 _ (Nat.le_max_right _ _)]
    simp

end Go.Proofs.Ytbeejpjfijnbhaa.Pure
