/- The plain law of GeomChecks: Check and May agree at all numbers. No further condition. -/
import Derived.Test.YtidakgfblehipaaPGeomChecksx
namespace Go.Proofs.Ytidakgfblehipaa.PGeomChecks
open Go.RowKit Go.Proofs.YtidakgfblehipaaW.PrintWords Go.Proofs.YtidakgfblehipaaW.PrintLast Go.Proofs.YtidakgfblehipaaW.PrintMore

theorem awake_true : drystonelaw05_Awake.f 1 = some true := by decide +kernel

def inB (a b c : Int) : Bool := if b ≤ a then decide (a ≤ c) else false
theorem in_eq (a b c : Int) : geom_in.f a b c = some (inB a b c) := by
  unfold geom_in.f inB
  by_cases h : b ≤ a
  · rw [if_pos h, if_pos h]
  · rw [if_neg h, if_neg h]
theorem inB_iff (a b c : Int) : inB a b c = true ↔ b ≤ a ∧ a ≤ c := by
  unfold inB
  by_cases h : b ≤ a
  · rw [if_pos h, decide_eq_true_eq]; omega
  · rw [if_neg h]; exact ⟨fun x => (nomatch x), fun x => absurd x.1 h⟩

def GoodB (a0 a1 a2 a3 a4 a5 : Int) : Bool :=
  inB a0 3 16 && inB a2 4 64 && inB a3 2 16 && inB a1 (mx (wrap64 (15 + wrap64 (5 * wrap64 (a0 - 2)))) 32) 512 && inB a4 (wrap64 (a0 - 2)) (mn (wrap64 (a3 * wrap64 (a0 - 2))) 256) &&
    inB a5 1 (wrap64 (wrap64 (wrap64 (a2 - 3) * wrap64 (a3 - 1)) * wrap64 (a0 - 2)))

theorem check_eq (a0 a1 a2 a3 a4 a5 : Int) (k : Nat) : geom_Shape_Check.f (k + 1) a0 a1 a2 a3 a4 a5 = some (if GoodB a0 a1 a2 a3 a4 a5 = true then 0 else 1) := by
  have z (b : Bool) : b = true ∨ b = false := by cases b <;> simp
  rcases z (inB a0 3 16) with h0 | h0 <;> rcases z (inB a2 4 64) with h1 | h1 <;> rcases z (inB a3 2 16) with h2 | h2 <;> rcases z (inB a1 (mx (wrap64 (15 + wrap64 (5 * wrap64 (a0 - 2)))) 32) 512) with h3 | h3 <;>
    rcases z (inB a4 (wrap64 (a0 - 2)) (mn (wrap64 (a3 * wrap64 (a0 - 2))) 256)) with h4 | h4 <;> rcases z (inB a5 1 (wrap64 (wrap64 (wrap64 (a2 - 3) * wrap64 (a3 - 1)) * wrap64 (a0 - 2)))) with h5 | h5 <;>
    simp [geom_Shape_Check.f, geom_Shape_Check.j0, in_eq, geom_Shape_Note.f, geom_Shape_Slots.f, geom_Shape_Most.f, GoodB, h0, h1, h2, h3, h4, h5]

theorem le_mn (a b c : Int) : a ≤ mn b c ↔ a ≤ b ∧ a ≤ c := by unfold mn; split <;> omega
theorem mx_le (a b c : Int) : mx a b ≤ c ↔ a ≤ c ∧ b ≤ c := by unfold mx; split <;> omega
theorem good_iff (a0 a1 a2 a3 a4 a5 : Int) : GoodB a0 a1 a2 a3 a4 a5 = true ↔ 3 ≤ a0 ∧ a0 ≤ 16 ∧ 4 ≤ a2 ∧ a2 ≤ 64 ∧ 2 ≤ a3 ∧ a3 ≤ 16 ∧ 32 ≤ a1 ∧ wrap64 (15 + wrap64 (5 * wrap64 (a0 - 2))) ≤ a1 ∧ a1 ≤ 512 ∧
    wrap64 (a0 - 2) ≤ a4 ∧ a4 ≤ wrap64 (a3 * wrap64 (a0 - 2)) ∧ a4 ≤ 256 ∧ 1 ≤ a5 ∧ a5 ≤ wrap64 (wrap64 (wrap64 (a2 - 3) * wrap64 (a3 - 1)) * wrap64 (a0 - 2)) := by
  simp only [GoodB, Bool.and_eq_true, inB_iff, le_mn, mx_le]
  constructor
  · rintro ⟨⟨⟨⟨⟨⟨h1, h2⟩, h3, h4⟩, h5, h6⟩, ⟨h7, h8⟩, h9⟩, h10, h11, h12⟩, h13, h14⟩
    exact ⟨h1, h2, h3, h4, h5, h6, h8, h7, h9, h10, h11, h12, h13, h14⟩
  · rintro ⟨h1, h2, h3, h4, h5, h6, h8, h7, h9, h10, h11, h12, h13, h14⟩
    exact ⟨⟨⟨⟨⟨⟨h1, h2⟩, h3, h4⟩, h5, h6⟩, ⟨h7, h8⟩, h9⟩, h10, h11, h12⟩, h13, h14⟩

theorem may_eq (a0 a1 a2 a3 a4 a5 : Int) : drystonelaw05_May.f a0 a1 a2 a3 a4 a5 = some (GoodB a0 a1 a2 a3 a4 a5) := by
  have g := good_iff a0 a1 a2 a3 a4 a5
  unfold drystonelaw05_May.f
  rw [Int.mul_comm a3] at g
  generalize GoodB a0 a1 a2 a3 a4 a5 = b at *
  generalize wrap64 (15 + wrap64 (5 * wrap64 (a0 - 2))) = u at *
  generalize wrap64 (wrap64 (wrap64 (a2 - 3) * wrap64 (a3 - 1)) * wrap64 (a0 - 2)) = v at *
  generalize wrap64 (wrap64 (a0 - 2) * a3) = x at *
  generalize wrap64 (a0 - 2) = y at *
  cases b with
  | true =>
    obtain ⟨h1, h2, h3, h4, h5, h6, h8, h7, h9, h10, h11, h12, h13, h14⟩ := g.1 rfl
    rw [if_neg (by omega), if_neg (by omega), if_neg (by omega), if_neg (by omega), if_neg (by omega), if_neg (by omega), if_pos (by omega), if_pos (by omega), if_pos (by omega), if_pos (by omega), if_pos (by omega), if_pos (by omega), if_pos (by omega), decide_eq_true (by omega)]
  | false =>
    have n : ¬ (3 ≤ a0 ∧ a0 ≤ 16 ∧ 4 ≤ a2 ∧ a2 ≤ 64 ∧ 2 ≤ a3 ∧ a3 ≤ 16 ∧ 32 ≤ a1 ∧ u ≤ a1 ∧ a1 ≤ 512 ∧ y ≤ a4 ∧ a4 ≤ x ∧ a4 ≤ 256 ∧ 1 ≤ a5 ∧ a5 ≤ v) := fun h => nomatch g.2 h
    by_cases c1 : a0 < 3
    · rw [if_pos c1]
    by_cases c2 : a0 > 16
    · rw [if_neg c1, if_pos c2]
    by_cases c3 : a2 < 4
    · rw [if_neg c1, if_neg c2, if_pos c3]
    by_cases c4 : a2 > 64
    · rw [if_neg c1, if_neg c2, if_neg c3, if_pos c4]
    by_cases c5 : a3 < 2
    · rw [if_neg c1, if_neg c2, if_neg c3, if_neg c4, if_pos c5]
    by_cases c6 : a3 > 16
    · rw [if_neg c1, if_neg c2, if_neg c3, if_neg c4, if_neg c5, if_pos c6]
    rw [if_neg c1, if_neg c2, if_neg c3, if_neg c4, if_neg c5, if_neg c6]
    by_cases d1 : a1 ≥ 32
    · rw [if_pos d1]
      by_cases d2 : a1 ≥ u
      · rw [if_pos d2]
        by_cases d3 : a1 ≤ 512
        · rw [if_pos d3]
          by_cases d4 : a4 ≥ y
          · rw [if_pos d4]
            by_cases d5 : a4 ≤ x
            · rw [if_pos d5]
              by_cases d6 : a4 ≤ 256
              · rw [if_pos d6]
                by_cases d7 : a5 ≥ 1
                · rw [if_pos d7, decide_eq_false (by omega)]
                · rw [if_neg d7]
              · rw [if_neg d6]
            · rw [if_neg d5]
          · rw [if_neg d4]
        · rw [if_neg d3]
      · rw [if_neg d2]
    · rw [if_neg d1]

theorem pure_ (a0 a1 a2 a3 a4 a5 : Int) : drystonelaw05_GeomChecks.f 1 a0 a1 a2 a3 a4 a5 = some true := by
  unfold drystonelaw05_GeomChecks.f
  rw [awake_true, check_eq, may_eq]
  cases GoodB a0 a1 a2 a3 a4 a5 <;> rfl

theorem walk (a0 a1 a2 a3 a4 a5 : Int) (w : World) (_ : (Lit.int .i64 a0).wf = true) (_ : (Lit.int .i64 a1).wf = true) (_ : (Lit.int .i64 a2).wf = true) (_ : (Lit.int .i64 a3).wf = true) (_ : (Lit.int .i64 a4).wf = true) (_ : (Lit.int .i64 a5).wf = true) :
    Calls Try.prog 3 #[.agg #[.int .i64 a0, .int .i64 a1, .int .i64 a2, .int .i64 a3, .int .i64 a4, .int .i64 a5]] w fun e w' => e = .returned (.bool true) ∧ Below w.heap.size w w' :=
  drystonelaw05_GeomChecks.calls 1 _ _ _ _ _ _ true w (pure_ a0 a1 a2 a3 a4 a5)

end Go.Proofs.Ytidakgfblehipaa.PGeomChecks
