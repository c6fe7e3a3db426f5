/- The plain law: what is sealed in any bytes, or why nothing is. No further condition. -/
import Derived.Test.YtkgeomjbagoomaaSealed
namespace Go.Proofs.Ytkgeomjbagoomaa.Pure
open Go.RowKit Go.Proofs.Ytkgeomjbagoomaa.Q Go.Proofs.YtkgeomjbagoomaaW.PrintWords Go.Proofs.YtkgeomjbagoomaaW.PrintLast Go.Proofs.YtkgeomjbagoomaaW.PrintMore CrcMath

theorem sm_ {t0 t1 t2 t3 : Int} (h0 : 0 ≤ t0 ∧ t0 < 256) (h1 : 0 ≤ t1 ∧ t1 < 256) (h2 : 0 ≤ t2 ∧ t2 < 256) (h3 : 0 ≤ t3 ∧ t3 < 256) :
    ((((t0 % 4294967296 + t1 % 4294967296 * 256 % 4294967296) % 4294967296 + t2 % 4294967296 * 65536 % 4294967296) % 4294967296 + t3 % 4294967296 * 16777216 % 4294967296) % 4294967296) = t0 + 256 * t1 + 65536 * t2 + 16777216 * t3 := by
  have s0 : t0 % 4294967296 = t0 := by omega
  have s1 : t1 % 4294967296 * 256 % 4294967296 = 256 * t1 := by omega
  have s2 : t2 % 4294967296 * 65536 % 4294967296 = 65536 * t2 := by omega
  have s3 : t3 % 4294967296 * 16777216 % 4294967296 = 16777216 * t3 := by omega
  have s4 : (t0 + 256 * t1) % 4294967296 = t0 + 256 * t1 := by omega
  have s5 : (t0 + 256 * t1 + 65536 * t2) % 4294967296 = t0 + 256 * t1 + 65536 * t2 := by omega
  have s6 : (t0 + 256 * t1 + 65536 * t2 + 16777216 * t3) % 4294967296 = t0 + 256 * t1 + 65536 * t2 + 16777216 * t3 := by omega
  rw [s0, s1, s2, s3, s4, s5, s6]

theorem SumOpens : drystonelaw01_SumOpens.Pure := by
  intro l hmx hl hw
  clear hmx hl
  have hb := Bytes.wf hw
  refine ⟨20 * l.length + 200, ?_⟩
  generalize hK : 20 * l.length + 200 = K
  unfold drystonelaw01_SumOpens.f
  rw [awake_tells _ (by omega)]
  simp only [Option.bind_some]
  rw [if_pos trivial]
  by_cases c : (l.length : Int) > 600
  · rw [if_pos c]
  · rw [if_neg c]
    by_cases hs : l.length < 4
    · rw [open_short l hs]
      simp only [Option.bind_some]
      rw [if_pos (by unfold wrap64; omega), if_pos trivial]
      rfl
    · obtain ⟨t0, t1, t2, t3, e⟩ := four l (by omega)
      have hm : (l.take (l.length - 4)).length = l.length - 4 := by rw [List.length_take]; omega
      have hbm : Bytes (l.take (l.length - 4)) := hb.take _
      have ht : Bytes [t0, t1, t2, t3] := fun x hx => hb x (by rw [e]; exact List.mem_append_right _ hx)
      have h0 := ht t0 (by simp)
      have h1 := ht t1 (by simp)
      have h2 := ht t2 (by simp)
      have h3 := ht t3 (by simp)
      have ho := open_tells (l.take (l.length - 4)) t0 t1 t2 t3 hbm ht (by omega) K (by omega)
      have r0 := rd_app (l.take (l.length - 4)) [t0, t1, t2, t3] 0
      have r1 := rd_app (l.take (l.length - 4)) [t0, t1, t2, t3] 1
      have r2 := rd_app (l.take (l.length - 4)) [t0, t1, t2, t3] 2
      have r3 := rd_app (l.take (l.length - 4)) [t0, t1, t2, t3] 3
      rw [← e] at ho r0 r1 r2 r3
      rw [hm] at r0 r1 r2 r3
      rw [ho, show wrap64 ((l.length : Int) - 4) = ((l.length - 4 + 0 : Nat) : Int) from (by rw [wrapS (by omega) (by omega)]; omega), show wrap64 (((l.length - 4 + 0 : Nat) : Int) + 1) = ((l.length - 4 + 1 : Nat) : Int) from (by rw [wrapS (by omega) (by omega)]; omega), show wrap64 (((l.length - 4 + 0 : Nat) : Int) + 2) = ((l.length - 4 + 2 : Nat) : Int) from (by rw [wrapS (by omega) (by omega)]; omega), show wrap64 (((l.length - 4 + 0 : Nat) : Int) + 3) = ((l.length - 4 + 3 : Nat) : Int) from (by rw [wrapS (by omega) (by omega)]; omega), r0, r1, r2, r3]
      rw [show rd [t0, t1, t2, t3] ((0 : Nat) : Int) = t0 from rfl, show rd [t0, t1, t2, t3] ((1 : Nat) : Int) = t1 from rfl, show rd [t0, t1, t2, t3] ((2 : Nat) : Int) = t2 from rfl, show rd [t0, t1, t2, t3] ((3 : Nat) : Int) = t3 from rfl]
      rw [show (((l.length - 4 + 0 : Nat) : Int)).toNat = l.length - 4 by omega, ref_tells _ hbm (by omega) _ (by omega)]
      rw [sm_ h0 h1 h2 h3]
      clear r0 r1 r2 r3 ho e
      have fin : ∀ z : List Int × Int, z = (l.take (l.length - 4), 0) → slices_Equal_byte_byte.f K z.1 (l.take (l.length - 4)) = some true := by
        rintro z rfl
        show slices_Equal_byte_byte.f K (l.take (l.length - 4)) (l.take (l.length - 4)) = _
        rw [equal_tells _ _ (by omega) _ (by omega)]
        simp
      by_cases q : (sumN (l.take (l.length - 4)) : Int) = t0 + 256 * t1 + 65536 * t2 + 16777216 * t3
      · rw [if_pos q]
        simp only [Option.bind_some]
        rw [if_neg (by omega), if_pos (by omega), if_pos (by omega), if_pos (by omega), if_pos (by omega), if_pos (by omega), if_pos (by omega), if_pos (by omega), if_pos (by omega), if_pos (by omega), if_pos q.symm, if_pos trivial, fin _ rfl]
        rfl
      · rw [if_neg q]
        simp only [Option.bind_some]
        rw [if_neg (by omega), if_pos (by omega), if_pos (by omega), if_pos (by omega), if_pos (by omega), if_pos (by omega), if_pos (by omega), if_pos (by omega), if_pos (by omega), if_pos (by omega), if_neg (fun h => q h.symm), if_pos trivial]
        rfl

end Go.Proofs.Ytkgeomjbagoomaa.Pure
