/- The plain law: the sum is the document's. No further condition. -/
import Derived.Test.YtkgeomjbagoomaaSealed
namespace Go.Proofs.Ytkgeomjbagoomaa.Pure
open Go.RowKit Go.Proofs.Ytkgeomjbagoomaa.Q Go.Proofs.YtkgeomjbagoomaaW.PrintWords Go.Proofs.YtkgeomjbagoomaaW.PrintLast Go.Proofs.YtkgeomjbagoomaaW.PrintMore CrcMath

theorem SumOf : drystonelaw01_SumOf.Pure := by
  intro l _ hl hw
  have hb := Bytes.wf hw
  refine ⟨20 * l.length + 200, ?_⟩
  generalize hK : 20 * l.length + 200 = K
  unfold drystonelaw01_SumOf.f
  rw [awake_tells _ (by omega)]
  simp only [Option.bind_some]
  rw [if_pos trivial]
  by_cases c : (l.length : Int) > 600
  · rw [if_pos c]
  · rw [if_neg c, of_tells l hb (by omega) _ (by omega), ref_tells l hb (by omega) _ (by omega)]
    simp

end Go.Proofs.Ytkgeomjbagoomaa.Pure
