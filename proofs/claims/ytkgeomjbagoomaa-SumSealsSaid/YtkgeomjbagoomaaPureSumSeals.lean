/- The plain law: sealed bytes are they and their sum, and opened they are the same. No further condition. -/
import Derived.Test.YtkgeomjbagoomaaSealed
namespace Go.Proofs.Ytkgeomjbagoomaa.Pure
open Go.RowKit Go.Proofs.Ytkgeomjbagoomaa.Q Go.Proofs.YtkgeomjbagoomaaW.PrintWords Go.Proofs.YtkgeomjbagoomaaW.PrintLast Go.Proofs.YtkgeomjbagoomaaW.PrintMore CrcMath

theorem SumSeals : drystonelaw01_SumSeals.Pure := by
  intro l _ hl hw
  have hb := Bytes.wf hw
  refine ⟨20 * l.length + 200, ?_⟩
  generalize hK : 20 * l.length + 200 = K
  unfold drystonelaw01_SumSeals.f
  rw [awake_tells _ (by omega)]
  simp only [Option.bind_some]
  rw [if_pos trivial]
  by_cases c : (l.length : Int) > 600
  · rw [if_pos c]
  · have hs := sumN_lt hb
    rw [if_neg c, ref_tells l hb (by omega) _ (by omega), clone_tells l (by omega)]
    simp only [Option.bind_some]
    have e : [Int.tmod ((sumN l : Nat) : Int) 256 % 256, (Int.tdiv ((sumN l : Nat) : Int) 256 % 4294967296) % 256, (Int.tdiv ((sumN l : Nat) : Int) 65536 % 4294967296) % 256, (Int.tdiv ((sumN l : Nat) : Int) 16777216 % 4294967296) % 256] = le4 (sumN l) := by
      unfold le4
      rw [Int.tmod_eq_emod_of_nonneg (Int.natCast_nonneg _), Int.tdiv_eq_ediv_of_nonneg (Int.natCast_nonneg _), Int.tdiv_eq_ediv_of_nonneg (Int.natCast_nonneg _), Int.tdiv_eq_ediv_of_nonneg (Int.natCast_nonneg _)]
      congr 1
      · omega
      congr 1
      · omega
      congr 1
      · omega
      congr 1
      omega
    rw [e]
    have h4 : (le4 (sumN l)).length = 4 := rfl
    rw [if_pos (by omega), open_seal l (sumN l) hb (Int.natCast_nonneg _) (by omega) (by omega) _ (by omega), if_pos rfl, seal_tells l hb (by omega) _ (by omega)]
    simp only [Option.bind_some]
    rw [equal_tells _ _ (by rw [List.length_append]; omega) _ (by rw [List.length_append]; omega)]
    simp only [decide_true, Option.bind_some]
    rw [if_pos trivial, equal_tells l l (by omega) _ (by omega)]
    simp

end Go.Proofs.Ytkgeomjbagoomaa.Pure
