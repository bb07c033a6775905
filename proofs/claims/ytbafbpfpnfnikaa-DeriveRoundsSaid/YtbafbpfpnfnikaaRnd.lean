/- A region that draws its order, whose first operations only read, inside a round of a range over a function: the still-tail law of the kit, carried into the wide fence's rounds. Conditions: the region holds no defer statement. -/
import Derived.Test.YtbafbpfpnfnikaaRange
import Derived.StillTailTactics
namespace Go.Proofs.Ytbafbpfpnfnikaa.Range
open Go.RowKit
variable {n : Nat} {P : Program}
theorem wpIn_of_wp {l : Nat} {o : Oper} {a : Act} {w : World} {K K' : Act → World → Prop} {Q Q' : Exit → Act → World → Prop} (hd : ∀ c, o.op ≠ .defer c) (hK : ∀ a w, K a w → K' a w)
    (hp : ∀ c a w, Q (.panic c) a w → Q' (.panic c) a w) (hno : ¬ LetsOut Q) (h : o.wp P a w K Q) : o.wpIn (Fence.wide.inRound l) n P a w K' Q' := by
  refine ⟨fun f _ => trivial, ?_⟩
  rw [Oper.semAt_eq _ _ _ hd]
  unfold Oper.wp at h
  generalize (execOp a.eval o).run P w = r at h
  cases r with
  | ok x w' =>
    cases x with
    | value v => exact hK _ _ h
    | skip => exact hK _ _ h
    | defer d => exact hK _ _ h
    | enter f args =>
      refine ⟨fun hdep => by simp [Fence.wide] at hdep, ?_⟩
      have h2 : CallsIn (Fence.wide.inRound l) (n - 1) P f args w' _ := callsIn_wide.2 h
      refine h2.mono ?_
      intro e w'' hh
      cases e with
      | returned v => exact hK _ _ hh
      | panicked chain => exact hp _ _ _ hh
      | outgrown => exact absurd hh hno
    | row row args =>
      refine ⟨fun hdep => by simp [Fence.wide] at hdep, fun c cs _ => ?_⟩
      obtain ⟨v, w'', r, s⟩ := h c cs
      exact ⟨v, w'', hK _ _ r, stepsIn_wide.2 s⟩
    | round _ _ _ _ _ => exact h.elim
    | _ => exact h.elim
  | halt x w' =>
    cases x with
    | panic v => exact hp _ _ _ h
    | _ => exact h.elim
theorem wpAnyIn_of_wpAny {l : Nat} {md : Region.Mode} {ops : Array Oper} {Q Q' : Exit → Act → World → Prop} (hd : ∀ (i : Nat) (o : Oper), ops[i]? = some o → ∀ c, o.op ≠ .defer c) (hn : ∀ a w, Q .normal a w → Q' .normal a w)
    (hp : ∀ c a w, Q (.panic c) a w → Q' (.panic c) a w) (hno : ¬ LetsOut Q) : ∀ (fuel : Nat) (listed : Array Bool) (a : Act) (w : World), wpAny P md ops Q fuel listed a w → wpAnyIn (Fence.wide.inRound l) n P md ops Q' fuel listed a w
  | 0, listed, a, w, h => ⟨h.1, hn _ _ h.2⟩
  | fuel + 1, listed, a, w, h => by
    refine ⟨fun hr => hn _ _ (h.1 hr), fun i hi => ?_⟩
    have h1 := h.2 i hi
    unfold wpOp at h1
    unfold wpOpIn
    cases ho : ops[i]? with
    | none => rw [ho] at h1; exact wpAnyIn_of_wpAny hd hn hp hno fuel _ _ _ h1
    | some o =>
      rw [ho] at h1
      dsimp only at h1 ⊢
      by_cases hw : Region.wanted o (yielded ops a.tmps) = true
      · rw [if_pos hw] at h1 ⊢
        rcases h1 with h1 | h1
        · exact wpIn_of_wp (hd i o ho) (fun a w => wpAnyIn_of_wpAny hd hn hp hno fuel _ a w) hp hno h1
        · exact absurd h1.2 hno
      · rw [if_neg hw] at h1 ⊢
        exact ⟨fun _ _ => trivial, wpAnyIn_of_wpAny hd hn hp hno fuel _ _ _ h1⟩
/-- is no operation a defer statement? -/
def noDefer (l : List Oper) : Bool := l.all fun o => match o.op with | .defer _ => false | _ => true
theorem noDefer_spec {l : List Oper} (h : noDefer l = true) (i : Nat) (o : Oper) (ho : l.toArray[i]? = some o) (c : Call) : o.op ≠ .defer c := by
  intro e
  have hm : o ∈ l := by
    have : l[i]? = some o := by simpa using ho
    exact List.mem_of_getElem? this
  have := List.all_eq_true.1 h o hm
  rw [e] at this
  cases this
theorem wpIn_region_of_wp {l id : Nat} {ops : List Oper} {Q : Exit → Act → World → Prop} {a : Act} {w : World} (hm : P.follows .mixedOrders = true) (hd : noDefer ops = true)
    (h : wpAny P .any ops.toArray (fun e a w => e = .normal ∧ Q .normal a w) ops.toArray.size (Array.replicate ops.toArray.size false) a { w with drawn := w.drawn + 1 }) : (Code.region id ops.toArray true).wpIn (Fence.wide.inRound l) n P Q a w :=
  wpIn_region_any hm (wpAnyIn_of_wpAny (fun i o ho c => noDefer_spec hd i o ho c) (fun _ _ h => h.2) (fun _ _ _ h => nomatch h.1) (fun ⟨_, _, h⟩ => nomatch h.1) _ _ _ _ h)
theorem wpIn_region_still_tail {id l : Nat} {Q : Exit → Act → World → Prop} {a : Act} {w : World} {ops : List Oper} (k : Nat) (hm : P.follows .mixedOrders = true) (hB : Region.lexTailB .any ops.toArray k = true) (hd : noDefer ops = true)
    (h : wpStill P ops.toArray { w with drawn := w.drawn + 1 } (fun a' => wpList P ops.toArray (fun e a w => e = .normal ∧ Q .normal a w) (ops.drop k) a' { w with drawn := w.drawn + 1 }) (ops.take k) a) : (Code.region id ops.toArray true).wpIn (Fence.wide.inRound l) n P Q a w := by
  refine wpIn_region_of_wp hm hd ?_
  simp only [Region.lexTailB, Bool.and_eq_true, decide_eq_true_eq] at hB
  obtain ⟨⟨⟨⟨hsel, hn⟩, hs⟩, hc⟩, hlex⟩ := hB
  have hn' : k < ops.length := by simpa using hn
  have htl : (ops.take k).length = k := by simp; omega
  have hdl : (ops.drop k).length = ops.toArray.size - k := by simp
  have inv0 : HeadInv .any ops.toArray k (Array.replicate ops.toArray.size false) :=
    ⟨by simp, fun j oj _ hl => (by rw [getD_replicate_false] at hl; cases hl), fun t _ ht => getD_in (by simpa using ht) (getD_replicate_false _ _)⟩
  have H := wpAnyL_lex (md := .any) (g := ops.toArray.size - k) hsel hs hc hn (ops.take k) 0 _ a (fun j hj => by
    have hj' : j < k := by rw [htl] at hj; exact hj
    simp [hj']) (by simpa using htl) inv0 (by rw [htl]; exact hlex) h
  have := wpAny_of_head (Q' := fun e a w => e = .normal ∧ Q .normal a w) (g := ops.toArray.size - k) (fun listed a' hL => by
    have := wpAny_of_seq (md := .any) (Q' := fun e a w => e = .normal ∧ Q .normal a w) (ops.drop k) k listed a' { w with drawn := w.drawn + 1 } (fun j => by simp [List.getElem?_drop]) (by rw [hdl]; exact hL.1) hL.2
    rwa [hdl] at this) _ _ _ H
  rw [htl, show k + (ops.toArray.size - k) = ops.toArray.size by omega] at this
  exact this
end Go.Proofs.Ytbafbpfpnfnikaa.Range
