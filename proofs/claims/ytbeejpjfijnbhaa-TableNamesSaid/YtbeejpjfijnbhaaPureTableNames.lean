/- The examples, the limits and the errors of table are as the document has them. Conditions: none (closed). -/
import Derived.Test.YtbeejpjfijnbhaaPTableNamesx2
namespace Go.Proofs.Ytbeejpjfijnbhaa.Pure
open Go.RowKit Go.Proofs.Ytbeejpjfijnbhaa.PTableNames Go.Proofs.YtbeejpjfijnbhaaW.PrintWords Go.Proofs.YtbeejpjfijnbhaaW.PrintLast Go.Proofs.YtbeejpjfijnbhaaW.PrintMore

/-! what the document's functions come to -/
theorem wrapn {a b : Nat} (h : a + b ≤ 9223372036854775807) : wrap64 ((a : Int) + (b : Int)) = ((a + b : Nat) : Int) := by
  unfold wrap64; omega
theorem wrap1 {a : Nat} (h : a + 1 ≤ 9223372036854775807) : wrap64 ((a : Int) + 1) = ((a + 1 : Nat) : Int) := by
  unfold wrap64; omega
theorem wrap_in {a : Int} (h0 : -9223372036854775808 ≤ a) (h1 : a ≤ 9223372036854775807) : wrap64 a = a := by
  unfold wrap64; omega
theorem bad_false {n : Int} (h : Given.badB n = false) : 0 ≤ n ∧ n ≤ 15 := by
  simp [Given.badB] at h
  omega
theorem rd_nat (l : List Int) (i : Nat) : rd l (i : Int) = l.getD i 0 := by simp [rd]
theorem same_l0 (a b : List Int) (hl : a.length = b.length) (hm : a.length ≤ 9223372036854775807) : ∀ (d i : Nat), i + d = a.length → Ev (fun k => hamperref13_Same.l0 k a b (i : Int)) (decide (a.drop i = b.drop i))
  | 0, i, h => by
    refine Ev.step (f := fun _ => some (decide (a.drop i = b.drop i))) (fun k => ?_) (Ev.now _)
    simp only [hamperref13_Same.l0]
    rw [if_neg (by omega), List.drop_eq_nil_of_le (by omega), List.drop_eq_nil_of_le (by omega)]
    simp
  | d + 1, i, h => by
    have ha : a.drop i = a.getD i 0 :: a.drop (i + 1) := by rw [List.getD_eq_getElem?_getD, List.getElem?_eq_getElem (by omega)]; simp
    have hb : b.drop i = b.getD i 0 :: b.drop (i + 1) := by rw [List.getD_eq_getElem?_getD, List.getElem?_eq_getElem (by omega)]; simp
    by_cases e : a.getD i 0 = b.getD i 0
    · refine Ev.step (f := fun k => hamperref13_Same.l0 k a b ((i + 1 : Nat) : Int)) (fun k => ?_) ?_
      · simp only [hamperref13_Same.l0]
        rw [if_pos (by omega), if_pos (by omega), if_pos (by omega), rd_nat, rd_nat, if_pos e, wrap1 (by omega)]
      · have := same_l0 a b hl hm d (i + 1) (by omega)
        rw [ha, hb, e]
        simpa using this
    · refine Ev.step (f := fun _ => some false) (fun k => ?_) ?_
      · simp only [hamperref13_Same.l0]
        rw [if_pos (by omega), if_pos (by omega), if_pos (by omega), rd_nat, rd_nat, if_neg e]
      · have : decide (a.drop i = b.drop i) = false := by
          rw [ha, hb]
          simp only [decide_eq_false_iff_not, List.cons.injEq]
          exact fun h => e h.1
        rw [this]
        exact Ev.now _
theorem same_ev (a b : List Int) (hm : a.length ≤ 9223372036854775807) : Ev (fun k => hamperref13_Same.f k a b) (decide (a = b)) := by
  by_cases hl : a.length = b.length
  · refine Ev.congr (f := fun k => hamperref13_Same.l0 k a b ((0 : Nat) : Int)) (fun k => ?_) ?_
    · simp only [hamperref13_Same.f]
      rw [if_pos (by omega)]
      rfl
    · simpa using same_l0 a b hl hm a.length 0 (by omega)
  · have : decide (a = b) = false := by
      simp only [decide_eq_false_iff_not]
      exact fun h => hl (by rw [h])
    rw [this]
    refine Ev.congr (f := fun _ => some false) (fun k => ?_) (Ev.now _)
    simp only [hamperref13_Same.f]
    rw [if_neg (by omega)]

/-- The bytes of lengths. -/
def tMake (l : List Int) : List Int := (Given.runsOf l.length l).map Given.runByte
theorem runLen_all (x : Int) : ∀ (f : Nat) (t : List Int) (j : Nat), j < Given.runLen x f t → t.getD j 0 = x
  | 0, _, j, h => by simp [Given.runLen] at h
  | _ + 1, [], j, h => by simp [Given.runLen] at h
  | f + 1, y :: t, j, h => by
    simp only [Given.runLen] at h
    split at h
    · rename_i hy
      cases j with
      | zero => simpa using hy
      | succ j => simpa using runLen_all x f t j (by omega)
    · omega
theorem runLen_stop (x : Int) : ∀ (f : Nat) (t : List Int), Given.runLen x f t = f ∨ Given.runLen x f t = t.length ∨ t.getD (Given.runLen x f t) 0 ≠ x
  | 0, _ => .inl rfl
  | _ + 1, [] => .inr (.inl rfl)
  | f + 1, y :: t => by
    simp only [Given.runLen]
    split
    · rcases runLen_stop x f t with h | h | h
      · exact .inl (by omega)
      · exact .inr (.inl (by simp; omega))
      · exact .inr (.inr (by simpa using h))
    · rename_i h
      exact .inr (.inr (by simpa using h))
/-- What both tell of lengths. -/
def tSaid (l : List Int) : ByteArray × Int := if l.any Given.badB = true then ((⟨#[]⟩ : ByteArray), 4) else (strOfNums (tMake l), 0)
theorem prog_make (l : List Int) (hl : l.length ≤ 1000000) : Given.table_Make.f l = some (tSaid l) := by
  unfold Given.table_Make.f tSaid tMake
  split
  · rfl
  · rw [if_pos (by omega)]
/-! reading, in plain terms -/
theorem rdb (s : ByteArray) (i : Nat) : bt s (i : Int) = (bytesOf s).getD i 0 := by
  unfold bt bytesOf
  simp only [Int.toNat_natCast]
  by_cases h : i < s.size
  · have h2 : i < s.data.toList.length := by simpa using h
    simp only [h, dif_pos]
    rw [List.getD_eq_getElem?_getD, List.getElem?_map, List.getElem?_eq_getElem h2]
    simp
    rfl
  · have h2 : ¬ i < s.data.toList.length := by simpa using h
    rw [dif_neg h, List.getD_eq_getElem?_getD, List.getElem?_eq_none (by simp at h2 ⊢; omega)]
    rfl
theorem bytes_len (s : ByteArray) : (bytesOf s).length = s.size := by simp [bytesOf]
theorem bytes_in (s : ByteArray) : ∀ b ∈ bytesOf s, 0 ≤ b ∧ b ≤ 255 := by
  intro b hb
  unfold bytesOf at hb
  obtain ⟨c, _, rfl⟩ := List.mem_map.1 hb
  have := c.toNat_lt
  omega
/-- How many a byte tells, and of what length. -/
def cnt (b : Int) : Nat := (b % 16).toNat + 1
def lenOf' (b : Int) : Int := b / 16
def dec : List Int → List Int
  | [] => []
  | b :: bs => List.replicate (cnt b) (lenOf' b) ++ dec bs
theorem dec_snoc (bs : List Int) (b : Int) : dec (bs ++ [b]) = dec bs ++ List.replicate (cnt b) (lenOf' b) := by
  induction bs with
  | nil => simp [dec]
  | cons c bs ih => simp [dec, ih]
/-- What is read: the lengths, how many bytes, the error. -/
def pGo (n : Nat) : List Int → List Int → Nat → Int → Bool → List Int × Int × Int
  | [], acc, used, _, _ => if acc.length < n then ([], 0, 4) else (acc, (used : Int), 0)
  | b :: rest, acc, used, last, full =>
    if acc.length < n then
      if (lenOf' b = last ∧ full = false) ∨ n < acc.length + cnt b then ([], 0, 4)
      else pGo n rest (acc ++ List.replicate (cnt b) (lenOf' b)) (used + 1) (lenOf' b) (decide (cnt b = 16))
    else (acc, (used : Int), 0)
def pRead (n : Int) (s : ByteArray) : List Int × Int × Int := if n < 0 then ([], 0, 1) else pGo n.toNat (bytesOf s) [] 0 (-1) true
theorem and15 : ∀ b : Nat, b < 256 → Go.bits .and .u8 (b : Int) 15 = (b : Int) % 16 := by decide +kernel
theorem bit_and {b : Int} (h0 : 0 ≤ b) (h1 : b ≤ 255) : Go.bits .and .u8 b 15 = b % 16 := by
  obtain ⟨n, rfl⟩ := Int.eq_ofNat_of_zero_le h0
  exact and15 n (by omega)
theorem prog_l0 (s : ByteArray) (n : Nat) (hs : s.size ≤ 10000) (hn : n ≤ 9223372036854775807) : ∀ (d u : Nat) (acc : List Int) (last : Int) (full : Bool), u + d = s.size → acc.length ≤ 16 * u → acc.length ≤ n →
    Ev (fun k => table_Read.l0 k s (n : Int) acc (u : Int) last full) (pGo n ((bytesOf s).drop u) acc u last full)
  | 0, u, acc, last, full, h, ha, hle => by
    have hd : (bytesOf s).drop u = [] := List.drop_eq_nil_of_le (by rw [bytes_len]; omega)
    rw [hd]
    unfold pGo
    by_cases hc : acc.length < n
    · rw [if_pos hc]
      refine Ev.step (f := fun _ => some (([] : List Int), 0, 4)) (fun k => ?_) (Ev.now _)
      simp only [table_Read.l0]
      rw [if_pos (by omega), if_pos (by omega)]
    · rw [if_neg hc]
      refine Ev.step (f := fun _ => some (acc, (u : Int), 0)) (fun k => ?_) (Ev.now _)
      simp only [table_Read.l0]
      rw [if_neg (by omega)]
  | d + 1, u, acc, last, full, h, ha, hle => by
    have hul : u < (bytesOf s).length := by rw [bytes_len]; omega
    obtain ⟨b, hb⟩ : ∃ b, b = (bytesOf s).getD u 0 := ⟨_, rfl⟩
    have hd : (bytesOf s).drop u = b :: (bytesOf s).drop (u + 1) := by rw [hb, List.getD_eq_getElem?_getD, List.getElem?_eq_getElem hul]; simp
    have hmem : b ∈ bytesOf s := by rw [hb, List.getD_eq_getElem?_getD, List.getElem?_eq_getElem hul]; simp
    obtain ⟨hb0, hb1⟩ := bytes_in s b hmem
    have hbt : bt s (u : Int) = b := by rw [rdb, ← hb]
    have hw1 : wrap64 (b / 16) = lenOf' b := by unfold lenOf'; exact wrap_in (by omega) (by omega)
    have hw2 : wrap64 (wrap64 (b % 16) + 1) = ((cnt b : Nat) : Int) := by
      unfold cnt
      rw [wrap_in (a := b % 16) (by omega) (by omega), wrap_in (by omega) (by omega)]
      omega
    have hw3 : wrap64 ((n : Int) - (acc.length : Int)) = (n : Int) - (acc.length : Int) := wrap_in (by omega) (by omega)
    have hc1 : 1 ≤ cnt b ∧ cnt b ≤ 16 := by unfold cnt; omega
    have hrep : Given.slices_Repeat.f [lenOf' b] ((cnt b : Nat) : Int) = some (List.replicate (cnt b) (lenOf' b)) := by
      unfold Given.slices_Repeat.f
      rw [if_pos (by simp), if_pos (by omega), if_pos (by omega)]
      simp [rd]
    have hfull : (((cnt b : Nat) : Int) == 16) = decide (cnt b = 16) := by
      by_cases e : cnt b = 16
      · simp [e]
      · rw [decide_eq_false e]; simp; omega
    rw [hd]
    unfold pGo
    by_cases hc : acc.length < n
    · rw [if_pos hc]
      by_cases hbad : (lenOf' b = last ∧ full = false) ∨ n < acc.length + cnt b
      · rw [if_pos hbad]
        refine Ev.step (f := fun _ => some (([] : List Int), 0, 4)) (fun k => ?_) (Ev.now _)
        simp only [table_Read.l0, hbt, bit_and hb0 hb1, hw1, hw2, hw3]
        rw [if_pos (by omega), if_neg (by omega), if_pos (by omega), if_pos (by omega)]
        by_cases e1 : lenOf' b = last
        · rw [if_pos e1]
          by_cases e2 : full = true
          · rw [if_pos e2, if_pos]
            rcases hbad with ⟨_, h2⟩ | h2
            · rw [e2] at h2; cases h2
            · omega
          · rw [if_neg e2]
        · rw [if_neg e1, if_pos]
          rcases hbad with ⟨h2, _⟩ | h2
          · exact absurd h2 e1
          · omega
      · rw [if_neg hbad]
        refine Ev.step (f := fun k => table_Read.l0 k s (n : Int) (acc ++ List.replicate (cnt b) (lenOf' b)) ((u + 1 : Nat) : Int) (lenOf' b) (decide (cnt b = 16))) (fun k => ?_)
          (prog_l0 s n hs hn d (u + 1) _ _ _ (by omega) (by simp; omega) (by simp; omega))
        have hgt : ¬ ((cnt b : Nat) : Int) > (n : Int) - (acc.length : Int) := by
          intro h2
          exact hbad (.inr (by omega))
        simp only [table_Read.l0, hbt, bit_and hb0 hb1, hw1, hw2, hw3]
        rw [if_pos (by omega), if_neg (by omega), if_pos (by omega), if_pos (by omega)]
        by_cases e1 : lenOf' b = last
        · rw [if_pos e1]
          by_cases e2 : full = true
          · rw [if_pos e2, if_neg hgt, hrep]
            simp only [Option.bind_some, List.length_replicate]
            rw [if_pos (by omega), wrap1 (by omega), hfull]
          · exact absurd (.inl ⟨e1, by simpa using e2⟩) hbad
        · rw [if_neg e1, if_neg hgt, hrep]
          simp only [Option.bind_some, List.length_replicate]
          rw [if_pos (by omega), wrap1 (by omega), hfull]
    · rw [if_neg hc]
      refine Ev.step (f := fun _ => some (acc, (u : Int), 0)) (fun k => ?_) (Ev.now _)
      simp only [table_Read.l0]
      rw [if_neg (by omega)]
theorem prog_read (s : ByteArray) (n : Int) (hs : s.size ≤ 10000) (hn : n ≤ 9223372036854775807) : Ev (fun k => table_Read.f k s n) (pRead n s) := by
  unfold pRead
  by_cases h : n < 0
  · rw [if_pos h]
    refine Ev.congr (f := fun _ => some (([] : List Int), 0, 1)) (fun k => ?_) (Ev.now _)
    simp only [table_Read.f]
    rw [if_pos h]
  · rw [if_neg h]
    obtain ⟨m, rfl⟩ := Int.eq_ofNat_of_zero_le (show 0 ≤ n by omega)
    refine Ev.congr (f := fun k => table_Read.l0 k s (m : Int) [] ((0 : Nat) : Int) (-1) true) (fun k => ?_) ?_
    · simp only [table_Read.f]
      rw [if_neg h]
      rfl
    · simpa using prog_l0 s m hs (by omega) s.size 0 [] (-1) true (by omega) (by simp) (by simp)
/-! which bytes are those of lengths -/
def chain : Int → Bool → List Int → Bool
  | _, _, [] => true
  | last, full, b :: bs => !(decide (lenOf' b = last) && !full) && chain (lenOf' b) (decide (cnt b = 16)) bs
def fin' : Int → Bool → List Int → Int × Bool
  | last, full, [] => (last, full)
  | _, _, b :: bs => fin' (lenOf' b) (decide (cnt b = 16)) bs
theorem chain_snoc (b : Int) : ∀ (bs : List Int) (last : Int) (full : Bool), chain last full (bs ++ [b]) = (chain last full bs && !(decide (lenOf' b = (fin' last full bs).1) && !(fin' last full bs).2))
  | [], last, full => by simp [chain, fin']; rfl
  | c :: bs, last, full => by simp [chain, fin', chain_snoc b bs, Bool.and_assoc]; rfl
theorem fin_snoc (b : Int) : ∀ (bs : List Int) (last : Int) (full : Bool), fin' last full (bs ++ [b]) = (lenOf' b, decide (cnt b = 16))
  | [], last, full => by simp [fin']
  | c :: bs, last, full => by simp [fin', fin_snoc b bs]
theorem cnt_in {b : Int} : 1 ≤ cnt b ∧ cnt b ≤ 16 := by unfold cnt; omega
theorem runByte_of {b : Int} (h0 : 0 ≤ b) (h1 : b ≤ 255) : Given.runByte (lenOf' b, ((cnt b : Nat) : Int)) = b := by
  unfold Given.runByte lenOf' cnt
  dsimp only
  omega
theorem of_runByte {x : Int} {m : Nat} (h0 : 0 ≤ x) (h1 : x ≤ 15) (h2 : 1 ≤ m) (h3 : m ≤ 16) : lenOf' (Given.runByte (x, (m : Int))) = x ∧ cnt (Given.runByte (x, (m : Int))) = m := by
  unfold Given.runByte lenOf' cnt
  dsimp only
  omega
theorem runs_rep (x : Int) (c : Nat) (rest : List Int) (h1 : 1 ≤ c) (h16 : c ≤ 16) (hs : c = 16 ∨ rest = [] ∨ rest.head? ≠ some x) :
    Given.runsOf (List.replicate c x ++ rest).length (List.replicate c x ++ rest) = (x, (c : Int)) :: Given.runsOf rest.length rest := by
  obtain ⟨d, rfl⟩ : ∃ d, c = d + 1 := ⟨c - 1, by omega⟩
  have hx : rd (List.replicate (d + 1) x ++ rest) 0 = x := by simp [rd, List.replicate_succ]
  have h := Given.runs_step (x := x) (tl := List.replicate d x ++ rest) (rest := List.replicate (d + 1) x ++ rest) (by simp [List.replicate_succ]) (k := d + 1) (by omega) h16 (by simp)
    (fun j hj => by
      rw [hx, rd_nat, List.getD_eq_getElem?_getD, List.getElem?_append_left (by simpa using hj), List.getElem?_replicate, if_pos hj]
      rfl)
    (by
      rcases hs with h | h | h
      · exact .inl h
      · rcases Nat.lt_or_ge (d + 1) 16 with hlt | hge
        · exact .inr (.inl ⟨hlt, by rw [h]; simp⟩)
        · exact .inl (by omega)
      · rcases Nat.lt_or_ge (d + 1) 16 with hlt | hge
        · cases rest with
          | nil => exact .inr (.inl ⟨hlt, by simp⟩)
          | cons y rest =>
            refine .inr (.inr ⟨hlt, by simp, ?_⟩)
            rw [hx, rd_nat, List.getD_eq_getElem?_getD, List.getElem?_append_right (by simp)]
            simpa using h
        · exact .inl (by omega))
  rw [hx] at h
  rw [h]
  have hd : (List.replicate (d + 1) x ++ rest).drop (d + 1) = rest := by
    rw [List.drop_append, List.drop_eq_nil_of_le (by simp)]
    simp
  rw [hd]
theorem dec_head (b : Int) (bs : List Int) : (dec (b :: bs)).head? = some (lenOf' b) := by
  obtain ⟨d, hd⟩ : ∃ d, cnt b = d + 1 := ⟨cnt b - 1, by have := cnt_in (b := b); omega⟩
  simp [dec, hd, List.replicate_succ]
theorem make_dec : ∀ (bs : List Int) (last : Int) (full : Bool), (∀ b ∈ bs, 0 ≤ b ∧ b ≤ 255) → chain last full bs = true → tMake (dec bs) = bs
  | [], _, _, _, _ => rfl
  | b :: bs, last, full, hb, hc => by
    obtain ⟨h0, h1⟩ := hb b (by simp)
    simp only [chain, Bool.and_eq_true] at hc
    have ih := make_dec bs (lenOf' b) (decide (cnt b = 16)) (fun c hc => hb c (by simp [hc])) hc.2
    have hr := runs_rep (lenOf' b) (cnt b) (dec bs) cnt_in.1 cnt_in.2 (by
      cases bs with
      | nil => exact .inr (.inl rfl)
      | cons c bs =>
        by_cases e : cnt b = 16
        · exact .inl e
        · refine .inr (.inr ?_)
          rw [dec_head]
          have h2 := hc.2
          simp only [chain, Bool.and_eq_true, decide_eq_false e] at h2
          have h3 := h2.1
          simp at h3
          simpa using h3)
    unfold tMake at ih ⊢
    simp only [dec]
    rw [hr, List.map_cons, ih, runByte_of h0 h1]
theorem chain_runs : ∀ (f : Nat) (l : List Int) (last : Int) (full : Bool), (∀ n ∈ l, Given.badB n = false) → (full = true ∨ l.head? ≠ some last) → chain last full ((Given.runsOf f l).map Given.runByte) = true
  | 0, l, last, full, _, _ => by simp [Given.runsOf, chain]
  | f + 1, [], last, full, _, _ => by simp [Given.runsOf, chain]
  | f + 1, x :: l, last, full, hg, hs => by
    have hx := bad_false (hg x (by simp))
    have hle := Given.runLen_le x 15 l
    obtain ⟨q, hq⟩ : ∃ q, q = Given.runLen x 15 l := ⟨_, rfl⟩
    have hstop := runLen_stop x 15 l
    simp only [Given.runsOf, List.map_cons, chain]
    rw [← hq] at hle hstop ⊢
    obtain ⟨e1, e2⟩ := of_runByte (x := x) (m := q + 1) hx.1 hx.2 (by omega) (by omega)
    rw [e1, e2, chain_runs f (l.drop q) x (decide (q + 1 = 16)) (fun n hn => hg n (List.mem_cons_of_mem _ (List.mem_of_mem_drop hn))) ?_]
    · rcases hs with h | h
      · simp [h]
      · have : x ≠ last := by simpa using h
        simp [this]
    · rcases hstop with h | h | h
      · exact .inl (decide_eq_true (by omega))
      · right
        rw [List.drop_eq_nil_of_le (by omega)]
        simp
      · rcases Nat.lt_or_ge q l.length with hlt | hge
        · right
          rw [List.head?_drop]
          rw [List.getD_eq_getElem?_getD, List.getElem?_eq_getElem hlt] at h
          rw [List.getElem?_eq_getElem hlt]
          simpa using h
        · right
          rw [List.drop_eq_nil_of_le (by omega)]
          simp
theorem chain_make (l : List Int) (hg : ∀ n ∈ l, Given.badB n = false) : chain (-1) true (tMake l) = true := chain_runs _ l (-1) true hg (.inl rfl)
theorem dec_good : ∀ (bs : List Int), (∀ b ∈ bs, 0 ≤ b ∧ b ≤ 255) → ∀ n ∈ dec bs, Given.badB n = false
  | [], _, n, h => by cases h
  | b :: bs, hb, n, h => by
    simp only [dec, List.mem_append] at h
    rcases h with h | h
    · have := (List.mem_replicate.1 h).2
      have hb0 := hb b (by simp)
      unfold Given.badB lenOf' at *
      exact decide_eq_false (by omega)
    · exact dec_good bs (fun c hc => hb c (by simp [hc])) n h
theorem said_good {l : List Int} (hg : ∀ n ∈ l, Given.badB n = false) : tSaid l = (strOfNums (tMake l), 0) := by
  unfold tSaid
  rw [if_neg]
  simp only [List.any_eq_true, not_exists, not_and]
  intro n hn
  rw [hg n hn]
  simp
theorem make_in (l : List Int) (hg : ∀ n ∈ l, Given.badB n = false) : ∀ b ∈ tMake l, 0 ≤ b ∧ b ≤ 255 := by
  intro b hb
  unfold tMake at hb
  obtain ⟨x, hx, rfl⟩ := List.mem_map.1 hb
  have := Given.runsOf_mem _ l hg x hx
  unfold Given.runByte
  omega
theorem nums_bytes : ∀ (xs : List Int), (∀ x ∈ xs, 0 ≤ x ∧ x ≤ 255) → bytesOf (strOfNums xs) = xs := by
  intro xs h
  unfold bytesOf strOfNums
  simp only [List.map_map]
  conv => rhs; rw [← List.map_id xs]
  refine List.map_congr_left fun x hx => ?_
  have := h x hx
  simp
  omega
theorem map_toNat_inj : ∀ (a b : List UInt8), a.map (fun c : UInt8 => (c.toNat : Int)) = b.map (fun c : UInt8 => (c.toNat : Int)) → a = b
  | [], [], _ => rfl
  | [], _ :: _, h => by simp at h
  | _ :: _, [], h => by simp at h
  | x :: a, y :: b, h => by
    simp only [List.map_cons, List.cons.injEq] at h
    rw [map_toNat_inj a b h.2, UInt8.toNat_inj.1 (show x.toNat = y.toNat by have := h.1; omega)]
theorem bytes_inj {s t : ByteArray} : s.toList = t.toList ↔ bytesOf s = bytesOf t := by
  rw [ByteArray.toList_eq, ByteArray.toList_eq]
  exact ⟨fun h => by unfold bytesOf; rw [h], fun h => map_toNat_inj _ _ h⟩
theorem bytes_take (s : ByteArray) (u : Nat) : bytesOf (s.extract 0 u) = (bytesOf s).take u := by
  unfold bytesOf
  rw [← List.map_take]
  congr 1
  simp [ByteArray.extract, ByteArray.copySlice]
theorem works_ev : Ev (fun k => hamperlaw13_works.f k) true := by
  obtain ⟨K1, h1⟩ := prog_read (⟨#[50, 0]⟩ : ByteArray) 4 (by decide) (by decide)
  obtain ⟨K2, h2⟩ := prog_read (⟨#[50]⟩ : ByteArray) 2 (by decide) (by decide)
  obtain ⟨K3, h3⟩ := prog_read (⟨#[48, 49]⟩ : ByteArray) 3 (by decide) (by decide)
  obtain ⟨K4, h4⟩ := same_ev [3, 3, 3, 0] [3, 3, 3, 0] (by decide)
  refine ⟨K1 + K2 + K3 + K4, fun k hk => ?_⟩
  dsimp only at h1 h2 h3 h4 ⊢
  have e1 : pRead 4 (⟨#[50, 0]⟩ : ByteArray) = ([3, 3, 3, 0], 2, 0) := by decide +kernel
  have e2 : pRead 2 (⟨#[50]⟩ : ByteArray) = ([], 0, 4) := by decide +kernel
  have e3 : pRead 3 (⟨#[48, 49]⟩ : ByteArray) = ([], 0, 4) := by decide +kernel
  have m1 : Given.table_Make.f [3, 3, 3, 0] = some ((⟨#[50, 0]⟩ : ByteArray), 0) := by decide +kernel
  have m2 : Given.table_Make.f (List.replicate 17 0) = some ((⟨#[15, 0]⟩ : ByteArray), 0) := by decide +kernel
  have m3 : Given.table_Make.f [16] = some ((⟨#[]⟩ : ByteArray), 4) := by decide +kernel
  have t1 : (⟨#[50, 0]⟩ : ByteArray).toList = [50, 0] := ByteArray.toList_mk _
  have t2 : (⟨#[15, 0]⟩ : ByteArray).toList = [15, 0] := ByteArray.toList_mk _
  unfold hamperlaw13_works.f
  rw [m1, h1 k (by omega), h2 k (by omega), h3 k (by omega), e1, e2, e3]
  simp only [Option.bind_some]
  rw [if_pos (by decide), m2, m3]
  simp only [Option.bind_some]
  rw [if_pos t1, if_pos trivial, h4 k (by omega)]
  simp only [Option.bind_some, decide_true]
  rw [if_pos t2]
  rfl
theorem TableNames : hamperlaw13_TableNames.Pure := by
  obtain ⟨K0, h0⟩ := works_ev
  obtain ⟨K1, h1⟩ := prog_read (⟨#[97, 98, 99]⟩ : ByteArray) 0 (by decide) (by decide)
  obtain ⟨K2, h2⟩ := prog_read (⟨#[]⟩ : ByteArray) 1 (by decide) (by decide)
  obtain ⟨K3, h3⟩ := prog_read (⟨#[]⟩ : ByteArray) (-1) (by decide) (by decide)
  obtain ⟨K4, h4⟩ := prog_read (⟨#[15, 15, 113]⟩ : ByteArray) 32 (by decide) (by decide)
  obtain ⟨K5, h5⟩ := prog_read (⟨#[15, 14, 0]⟩ : ByteArray) 32 (by decide) (by decide)
  obtain ⟨K6, h6⟩ := prog_read (⟨#[15]⟩ : ByteArray) 1099511627776 (by decide) (by decide)
  dsimp only at h0 h1 h2 h3 h4 h5 h6
  have e1 : pRead 0 (⟨#[97, 98, 99]⟩ : ByteArray) = ([], 0, 0) := by decide +kernel
  have e2 : pRead 1 (⟨#[]⟩ : ByteArray) = ([], 0, 4) := by decide +kernel
  have e3 : pRead (-1) (⟨#[]⟩ : ByteArray) = ([], 0, 1) := by decide +kernel
  have e4 : pRead 32 (⟨#[15, 15, 113]⟩ : ByteArray) = (List.replicate 32 0, 2, 0) := by decide +kernel
  have e5 : pRead 32 (⟨#[15, 14, 0]⟩ : ByteArray) = ([], 0, 4) := by decide +kernel
  have e6 : pRead 1099511627776 (⟨#[15]⟩ : ByteArray) = ([], 0, 4) := by decide +kernel
  have m1 : Given.table_Make.f [] = some ((⟨#[]⟩ : ByteArray), 0) := by decide +kernel
  have m2 : Given.table_Make.f [15, 0] = some ((⟨#[240, 0]⟩ : ByteArray), 0) := by decide +kernel
  have m3 : Given.table_Make.f [0, -1] = some ((⟨#[]⟩ : ByteArray), 4) := by decide +kernel
  have t1 : (⟨#[]⟩ : ByteArray).toList = [] := ByteArray.toList_mk _
  have t2 : (⟨#[240, 0]⟩ : ByteArray).toList = [240, 0] := ByteArray.toList_mk _
  refine ⟨K0 + K1 + K2 + K3 + K4 + K5 + K6, ?_⟩
  unfold hamperlaw13_TableNames.f
  rw [m1, m2, m3, h1 _ (by omega), h2 _ (by omega), h3 _ (by omega), h4 _ (by omega), h5 _ (by omega), h6 _ (by omega), h0 _ (by omega), e1, e2, e3, e4, e5, e6]
  simp only [Option.bind_some]
  rw [if_pos trivial, if_pos t1, if_pos trivial, if_pos t2]
  rfl

end Go.Proofs.Ytbeejpjfijnbhaa.Pure
