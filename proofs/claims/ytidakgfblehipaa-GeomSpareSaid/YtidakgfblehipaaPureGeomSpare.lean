/- The plain law of GeomSpare: of a shape that may be, three segments and a stripe of each other one are more than all blocks need. No further condition. -/
import Derived.Test.YtidakgfblehipaaPGeomSparex
namespace Go.Proofs.Ytidakgfblehipaa.PGeomSpare
open Go.RowKit Go.Proofs.YtidakgfblehipaaW.PrintWords Go.Proofs.YtidakgfblehipaaW.PrintLast Go.Proofs.YtidakgfblehipaaW.PrintMore

theorem awake_true : drystonelaw05_Awake.f 1 = some true := by decide +kernel

theorem w64 {x : Int} (h : -1000000 ≤ x) (g : x ≤ 1000000) : wrap64 x = x := by unfold wrap64; omega

def inB (a b c : Int) : Bool := if b ≤ a then decide (a ≤ c) else false
theorem in_eq (a b c : Int) : geom_in.f a b c = some (inB a b c) := by
  unfold geom_in.f inB
  by_cases h : b ≤ a
  · rw [if_pos h, if_pos h]
  · rw [if_neg h, if_neg h]
theorem inB_iff (a b c : Int) : inB a b c = true ↔ b ≤ a ∧ a ≤ c := by
  unfold inB
  by_cases h : b ≤ a
  · rw [if_pos h, decide_eq_true_eq]; omega
  · rw [if_neg h]; exact ⟨fun x => (nomatch x), fun x => absurd x.1 h⟩

def GoodB (a0 a1 a2 a3 a4 a5 : Int) : Bool :=
  inB a0 3 16 && inB a2 4 64 && inB a3 2 16 && inB a1 (mx (wrap64 (15 + wrap64 (5 * wrap64 (a0 - 2)))) 32) 512 && inB a4 (wrap64 (a0 - 2)) (mn (wrap64 (a3 * wrap64 (a0 - 2))) 256) &&
    inB a5 1 (wrap64 (wrap64 (wrap64 (a2 - 3) * wrap64 (a3 - 1)) * wrap64 (a0 - 2)))

theorem check_eq (a0 a1 a2 a3 a4 a5 : Int) (k : Nat) : geom_Shape_Check.f (k + 1) a0 a1 a2 a3 a4 a5 = some (if GoodB a0 a1 a2 a3 a4 a5 = true then 0 else 1) := by
  have z (b : Bool) : b = true ∨ b = false := by cases b <;> simp
  rcases z (inB a0 3 16) with h0 | h0 <;> rcases z (inB a2 4 64) with h1 | h1 <;> rcases z (inB a3 2 16) with h2 | h2 <;> rcases z (inB a1 (mx (wrap64 (15 + wrap64 (5 * wrap64 (a0 - 2)))) 32) 512) with h3 | h3 <;>
    rcases z (inB a4 (wrap64 (a0 - 2)) (mn (wrap64 (a3 * wrap64 (a0 - 2))) 256)) with h4 | h4 <;> rcases z (inB a5 1 (wrap64 (wrap64 (wrap64 (a2 - 3) * wrap64 (a3 - 1)) * wrap64 (a0 - 2)))) with h5 | h5 <;>
    simp [geom_Shape_Check.f, geom_Shape_Check.j0, in_eq, geom_Shape_Note.f, geom_Shape_Slots.f, geom_Shape_Most.f, GoodB, h0, h1, h2, h3, h4, h5]

theorem le_mn (a b c : Int) : a ≤ mn b c ↔ a ≤ b ∧ a ≤ c := by unfold mn; split <;> omega
theorem mx_le (a b c : Int) : mx a b ≤ c ↔ a ≤ c ∧ b ≤ c := by unfold mx; split <;> omega
theorem good_iff (a0 a1 a2 a3 a4 a5 : Int) : GoodB a0 a1 a2 a3 a4 a5 = true ↔ 3 ≤ a0 ∧ a0 ≤ 16 ∧ 4 ≤ a2 ∧ a2 ≤ 64 ∧ 2 ≤ a3 ∧ a3 ≤ 16 ∧ 32 ≤ a1 ∧ wrap64 (15 + wrap64 (5 * wrap64 (a0 - 2))) ≤ a1 ∧ a1 ≤ 512 ∧
    wrap64 (a0 - 2) ≤ a4 ∧ a4 ≤ wrap64 (a3 * wrap64 (a0 - 2)) ∧ a4 ≤ 256 ∧ 1 ≤ a5 ∧ a5 ≤ wrap64 (wrap64 (wrap64 (a2 - 3) * wrap64 (a3 - 1)) * wrap64 (a0 - 2)) := by
  simp only [GoodB, Bool.and_eq_true, inB_iff, le_mn, mx_le]
  constructor
  · rintro ⟨⟨⟨⟨⟨⟨h1, h2⟩, h3, h4⟩, h5, h6⟩, ⟨h7, h8⟩, h9⟩, h10, h11, h12⟩, h13, h14⟩
    exact ⟨h1, h2, h3, h4, h5, h6, h8, h7, h9, h10, h11, h12, h13, h14⟩
  · rintro ⟨h1, h2, h3, h4, h5, h6, h8, h7, h9, h10, h11, h12, h13, h14⟩
    exact ⟨⟨⟨⟨⟨⟨h1, h2⟩, h3, h4⟩, h5, h6⟩, ⟨h7, h8⟩, h9⟩, h10, h11, h12⟩, h13, h14⟩

/-- What Check tells: its word is 0 or 1; if it is 0 the numbers lie so. -/
theorem check_says (a0 a1 a2 a3 a4 a5 : Int) : ∃ c, geom_Shape_Check.f 1 a0 a1 a2 a3 a4 a5 = some c ∧
    (c = 0 → 3 ≤ a0 ∧ a0 ≤ 16 ∧ 4 ≤ a2 ∧ a2 ≤ 64 ∧ 2 ≤ a3 ∧ a3 ≤ 16 ∧ 32 ≤ a1 ∧ wrap64 (15 + wrap64 (5 * wrap64 (a0 - 2))) ≤ a1 ∧ a1 ≤ 512 ∧ wrap64 (a0 - 2) ≤ a4 ∧ 1 ≤ a5 ∧
      a5 ≤ wrap64 (wrap64 (wrap64 (a2 - 3) * wrap64 (a3 - 1)) * wrap64 (a0 - 2))) := by
  refine ⟨_, check_eq a0 a1 a2 a3 a4 a5 0, fun h => ?_⟩
  have g : GoodB a0 a1 a2 a3 a4 a5 = true := by
    by_cases e : GoodB a0 a1 a2 a3 a4 a5 = true
    · exact e
    · rw [if_neg e] at h; omega
  have := (good_iff a0 a1 a2 a3 a4 a5).1 g
  omega

theorem pure_ (a0 a1 a2 a3 a4 a5 : Int) : drystonelaw05_GeomSpare.f 1 a0 a1 a2 a3 a4 a5 = some true := by
  obtain ⟨c, hc, h⟩ := check_says a0 a1 a2 a3 a4 a5
  unfold drystonelaw05_GeomSpare.f
  rw [awake_true, hc]
  simp only [Option.bind_some]
  rw [if_pos trivial]
  by_cases e : c = 0
  · obtain ⟨h1, h2, h3, h4, h5, h6, h7, h8, h9, h10, h11, h12⟩ := h e
    rw [if_pos e]
    have e1 : wrap64 (a0 - 2) = a0 - 2 := w64 (by omega) (by omega)
    have e2 : wrap64 (a2 - 3) = a2 - 3 := w64 (by omega) (by omega)
    have e3 : wrap64 (a3 - 1) = a3 - 1 := w64 (by omega) (by omega)
    have e4 : wrap64 (5 * (a0 - 2)) = 5 * (a0 - 2) := w64 (by omega) (by omega)
    have e5 : wrap64 (15 + 5 * (a0 - 2)) = 15 + 5 * (a0 - 2) := w64 (by omega) (by omega)
    have e6 : wrap64 (3 * a3) = 3 * a3 := w64 (by omega) (by omega)
    have e7 : wrap64 (a1 - 15) = a1 - 15 := w64 (by omega) (by omega)
    have e8 : wrap64 (9 * a2) = 9 * a2 := w64 (by omega) (by omega)
    have e9 : wrap64 (12 + 9 * a2) = 12 + 9 * a2 := w64 (by omega) (by omega)
    rw [e1] at h10
    rw [e1, e4, e5] at h8
    rw [e1, e2, e3] at h12
    obtain ⟨s, rfl⟩ : ∃ s, a0 = s + 2 := ⟨a0 - 2, by omega⟩
    obtain ⟨g, rfl⟩ : ∃ g, a2 = g + 3 := ⟨a2 - 3, by omega⟩
    obtain ⟨t, rfl⟩ : ∃ t, a3 = t + 1 := ⟨a3 - 1, by omega⟩
    simp only [Int.add_sub_cancel] at *
    -- products and their bounds
    have p0 : 0 ≤ g * t ∧ g * t ≤ 61 * 15 := ⟨Int.mul_nonneg (by omega) (by omega), Int.mul_le_mul (by omega) (by omega) (by omega) (by omega)⟩
    have p1 : 0 ≤ g * t * s ∧ g * t * s ≤ 61 * 15 * 14 := ⟨Int.mul_nonneg p0.1 (by omega), Int.mul_le_mul p0.2 (by omega) (by omega) (by omega)⟩
    have p2 : 0 ≤ g * s ∧ g * s ≤ 61 * 14 := ⟨Int.mul_nonneg (by omega) (by omega), Int.mul_le_mul (by omega) (by omega) (by omega) (by omega)⟩
    have p3 : 0 ≤ t * s ∧ t * s ≤ 15 * 14 := ⟨Int.mul_nonneg (by omega) (by omega), Int.mul_le_mul (by omega) (by omega) (by omega) (by omega)⟩
    have q1 : (3 * (t + 1)) * s = 3 * (t * s) + 3 * s := by grind
    have q2 : (g + 3) * (t + 1) = g * t + g + 3 * t + 3 := by grind
    have q3 : (g * t + g + 3 * t + 3) * s = g * t * s + g * s + 3 * (t * s) + 3 * s := by grind
    rw [w64 (x := g * t) (by omega) (by omega), w64 (x := g * t * s) (by omega) (by omega)] at h12
    have e10 : wrap64 (4 * a5) = 4 * a5 := w64 (by omega) (by omega)
    simp only [geom_Shape_Slots.f, geom_Shape_All.f, geom_Shape_Note.f, geom_Shape_Pages.f, geom_Shape_Page.f, geom_Shape_Image.f, Option.bind_some, Int.add_sub_cancel, e1, e2, e4, e5, e6, e7, e8, e9, e10]
    rw [q1, q2, w64 (x := 3 * (t * s) + 3 * s) (by omega) (by omega), w64 (x := g * s) (by omega) (by omega), w64 (x := a5 + (3 * (t * s) + 3 * s)) (by omega) (by omega), w64 (x := g * t + g + 3 * t + 3) (by omega) (by omega), q3,
      w64 (x := g * t * s + g * s + 3 * (t * s) + 3 * s) (by omega) (by omega), w64 (x := a5 + (3 * (t * s) + 3 * s) + g * s) (by omega) (by omega)]
    rw [if_pos (by omega), if_pos (by omega), if_pos (by omega), if_neg (by omega)]
    simp only [Option.bind_some]
    rw [w64 (x := 12 + 9 * (g + 3) + 4 * a5) (by omega) (by omega), w64 (x := 12 + 9 * (g + 3) + 4 * a5 + (a1 - 15)) (by omega) (by omega), w64 (x := 12 + 9 * (g + 3) + 4 * a5 + (a1 - 15) - 1) (by omega) (by omega)]
    rw [Int.tdiv_eq_ediv_of_nonneg (by omega)]
    have hp : 0 < a1 - 15 := by omega
    generalize hz : 12 + 9 * (g + 3) + 4 * a5 = z at *
    have d1 := Int.mul_ediv_add_emod (z + (a1 - 15) - 1) (a1 - 15)
    have d2 := Int.emod_lt_of_pos (z + (a1 - 15) - 1) hp
    have d3 := Int.emod_nonneg (z + (a1 - 15) - 1) (show a1 - 15 ≠ 0 by omega)
    have d4 : 0 ≤ (z + (a1 - 15) - 1) / (a1 - 15) := Int.ediv_nonneg (by omega) (by omega)
    have d5 : (z + (a1 - 15) - 1) / (a1 - 15) ≤ z + (a1 - 15) - 1 := Int.ediv_le_self _ (by omega)
    generalize (z + (a1 - 15) - 1) / (a1 - 15) = y at *
    rw [w64 (x := y) (by omega) (by omega)]
    have d6 : y * (a1 - 15) = (a1 - 15) * y := Int.mul_comm _ _
    rw [d6, w64 (x := (a1 - 15) * y) (by omega) (by omega)]
    rw [decide_eq_true (by omega)]
  · rw [if_neg e]

theorem walk (a0 a1 a2 a3 a4 a5 : Int) (w : World) (_ : (Lit.int .i64 a0).wf = true) (_ : (Lit.int .i64 a1).wf = true) (_ : (Lit.int .i64 a2).wf = true) (_ : (Lit.int .i64 a3).wf = true) (_ : (Lit.int .i64 a4).wf = true) (_ : (Lit.int .i64 a5).wf = true) :
    Calls Try.prog 7 #[.agg #[.int .i64 a0, .int .i64 a1, .int .i64 a2, .int .i64 a3, .int .i64 a4, .int .i64 a5]] w fun e w' => e = .returned (.bool true) ∧ Below w.heap.size w w' :=
  drystonelaw05_GeomSpare.calls 1 _ _ _ _ _ _ true w (pure_ a0 a1 a2 a3 a4 a5)

end Go.Proofs.Ytidakgfblehipaa.PGeomSpare
