/- The digest of any bytes, and by any key, is the document's. Conditions: none but the statement's own. -/
import Derived.Test.YtbafbpfpnfnikaaPShaSumsx1
namespace Go.Proofs.Ytbafbpfpnfnikaa.Pure
open Go.RowKit Go.Proofs.Ytbafbpfpnfnikaa.PShaSums Go.Proofs.YtbafbpfpnfnikaaW.PrintWords Go.Proofs.YtbafbpfpnfnikaaW.PrintLast Go.Proofs.YtbafbpfpnfnikaaW.PrintMore

set_option linter.unusedVariables false
set_option linter.unusedSimpArgs false

open Given in
theorem ShaSums : hamperlaw07_ShaSums.Pure := by
  intro a0 a1 h0 h1
  refine ⟨1, ?_⟩
  unfold hamperlaw07_ShaSums.f
  by_cases b1 : (a1.size : Int) > 20000
  · rw [if_pos b1]; simp [hamperlaw07_ShaSums.j0]
  by_cases b0 : (a0.size : Int) > 20000
  · rw [if_neg b1, decide_eq_true b0]; simp [hamperlaw07_ShaSums.j0]
  rw [if_neg b1, decide_eq_false b0, hamperlaw07_ShaSums.j0, if_neg Bool.false_ne_true]
  have e1 : sha_Sum.f a1 = some (shaW a1) := by unfold sha_Sum.f; rw [if_pos h1]
  have e2 : ref07_Sum.f a1 = some (shaW a1) := by unfold ref07_Sum.f; rw [if_pos h1]
  have e3 : sha_Hmac.f a0 a1 = some (hmacW a0 a1) := by unfold sha_Hmac.f; rw [if_pos ⟨by omega, by omega⟩]
  have e4 : ref07_Hmac.f a0 a1 = some (hmacW a0 a1) := by unfold ref07_Hmac.f; rw [if_pos ⟨by omega, by omega⟩]
  rw [e1, e2, e3, e4]
  simp

end Go.Proofs.Ytbafbpfpnfnikaa.Pure
