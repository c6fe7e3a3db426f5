/- The plain law: sealed bytes with one more behind them, or the last one gone, aren't opened as they were. No further condition. -/
import Derived.Test.YtkgeomjbagoomaaSealed
namespace Go.Proofs.Ytkgeomjbagoomaa.Pure
open Go.RowKit Go.Proofs.Ytkgeomjbagoomaa.Q Go.Proofs.YtkgeomjbagoomaaW.PrintWords Go.Proofs.YtkgeomjbagoomaaW.PrintLast Go.Proofs.YtkgeomjbagoomaaW.PrintMore CrcMath

theorem more_ (l : List Int) (a : Int) (K : Nat) (hb : Bytes l) (hab : Bytes [a]) (c : l.length ≤ 600) (hK : 20 * l.length + 200 = K) : ∃ x e, sum_Open.f K (l ++ le4 (sumN l) ++ [a]) = some (x, e) ∧ (x.length = l.length + 1 ∧ l ≠ [] ∨ x.length = 0) := by
    have e1 : l ++ le4 (sumN l) ++ [a] = (l ++ [(sumN l : Int) % 256]) ++ [(sumN l : Int) / 256 % 256, (sumN l : Int) / 65536 % 256, (sumN l : Int) / 16777216 % 256, a] := by simp [le4]
    have q := le4_bytes (sumN l)
    have b1 : Bytes (l ++ [(sumN l : Int) % 256]) := hb.app (fun x hx => q x (by rw [List.mem_singleton] at hx; rw [hx]; simp [le4]))
    have b2 : Bytes [(sumN l : Int) / 256 % 256, (sumN l : Int) / 65536 % 256, (sumN l : Int) / 16777216 % 256, a] := by
      intro x hx
      simp only [List.mem_cons, List.not_mem_nil, or_false] at hx
      rcases hx with rfl | rfl | rfl | rfl
      · omega
      · omega
      · omega
      · exact hab _ (by simp)
    rw [e1, open_tells _ _ _ _ _ b1 b2 (by rw [List.length_append, List.length_singleton]; omega) _ (by rw [List.length_append, List.length_singleton]; omega)]
    by_cases hn : l = []
    · subst hn
      have s0 : sumN [] = 0 := by decide +kernel
      have s1 : sumN ([] ++ [((0 : Nat) : Int) % 256]) = 3523407757 := by decide +kernel
      have ha2 := hab a (by simp)
      rw [s0, s1, if_neg (by omega)]
      exact ⟨[], 5, rfl, .inr rfl⟩
    · split
      · exact ⟨_, _, rfl, .inl ⟨by simp, hn⟩⟩
      · exact ⟨_, _, rfl, .inr rfl⟩

theorem less_ (l : List Int) (K : Nat) (hb : Bytes l) (c : l.length ≤ 600) (hK : 20 * l.length + 200 = K) : ∃ y e, sum_Open.f K ((l ++ le4 (sumN l)).take (l.length + 3)) = some (y, e) ∧ (y.length + 1 = l.length ∨ y.length = 0) := by
    have e1 : (l ++ le4 (sumN l)).take (l.length + 3) = l ++ [(sumN l : Int) % 256, (sumN l : Int) / 256 % 256, (sumN l : Int) / 65536 % 256] := by
      rw [List.take_append, List.take_of_length_le (by omega), show l.length + 3 - l.length = 3 by omega]
      rfl
    rcases List.eq_nil_or_concat l with hn | ⟨m, z, hm⟩
    · rw [e1, hn, open_short _ (by simp)]
      exact ⟨_, _, rfl, .inr rfl⟩
    · have lm : l.length = m.length + 1 := by rw [hm]; simp
      have hb2 := hb
      rw [hm] at hb2
      have bm : Bytes m := fun x hx => hb2 x (by simp [hx])
      have q := le4_bytes (sumN l)
      have b2 : Bytes [z, (sumN l : Int) % 256, (sumN l : Int) / 256 % 256, (sumN l : Int) / 65536 % 256] := by
        intro x hx
        simp only [List.mem_cons, List.not_mem_nil, or_false] at hx
        rcases hx with rfl | rfl | rfl | rfl
        · exact hb2 _ (by simp)
        · omega
        · omega
        · omega
      have e2 : l ++ [(sumN l : Int) % 256, (sumN l : Int) / 256 % 256, (sumN l : Int) / 65536 % 256] = m ++ [z, (sumN l : Int) % 256, (sumN l : Int) / 256 % 256, (sumN l : Int) / 65536 % 256] := by
        conv => lhs; arg 1; rw [hm]
        simp
      rw [e1, e2, open_tells _ _ _ _ _ bm b2 (by omega) _ (by omega)]
      split
      · exact ⟨_, _, rfl, .inl (by omega)⟩
      · exact ⟨_, _, rfl, .inr rfl⟩

theorem SumEnds : drystonelaw01_SumEnds.Pure := by
  intro l a hmx hl hw ha
  clear hmx hl
  have hb := Bytes.wf hw
  have hab : Bytes [a] := Bytes.wf (by intro x hx; rw [List.mem_singleton] at hx; rw [hx]; exact ha)
  refine ⟨20 * l.length + 200, ?_⟩
  generalize hK : 20 * l.length + 200 = K
  unfold drystonelaw01_SumEnds.f
  rw [awake_tells _ (by omega)]
  simp only [Option.bind_some]
  rw [if_pos trivial]
  by_cases c : (l.length : Int) > 600
  · rw [if_pos c]
  · rw [if_neg c, seal_tells l hb (by omega) _ (by omega)]
    have h4 : (l ++ le4 (sumN l)).length = l.length + 4 := by rw [List.length_append]; rfl
    rw [Option.bind_some]
    rw [h4, wrapS (x := (l.length : Int) + 4) (by omega) (by omega), if_pos (by omega), clone_tells _ (by omega)]
    rw [Option.bind_some]
    rw [h4, if_pos (by omega)]
    have hx := more_ l a K hb hab (by omega) hK
    have hy := less_ l K hb (by omega) hK
    obtain ⟨x, e, hxe, hx⟩ := hx
    obtain ⟨y, f, hyf, hy⟩ := hy
    rw [hxe, show wrap64 (((l.length + 4 : Nat) : Int) - 1) = ((l.length + 3 : Nat) : Int) from (by rw [wrapS (by omega) (by omega)]; omega)]
    rw [Option.bind_some]
    rw [if_pos (by omega), if_pos (by omega), Int.toNat_natCast, hyf]
    rw [Option.bind_some]
    dsimp only
    rcases hx with ⟨hx, hn⟩ | hx
    · have hp : 0 < l.length := List.length_pos_iff.2 hn
      rw [if_neg (by omega), if_neg (by omega)]
    · by_cases hp : l.length = 0
      · have hy0 : y.length = 0 := by omega
        rw [if_pos (by omega), if_pos (by omega), hx, hy0, wrapS (by omega) (by omega)]
        rfl
      · rw [if_neg (by omega), if_neg (by omega)]

end Go.Proofs.Ytkgeomjbagoomaa.Pure
