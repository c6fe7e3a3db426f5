/- The walk of the law's Shape. No further condition. -/
import Derived.Test.YtcpngnnnggpfpaaSh
namespace Go.Proofs.Ytcpngnnnggpfpaa
open Go.RowKit
attribute [local go_sem ↓] Go.wp_at_zero Go.wp_at_succ

/-- The shape that the law makes of small numbers. -/
def shOf (a b c d e f : Int) : Sh := ⟨3 + a % 3, 32 + b % 9, 4 + c % 3, 2 + d % 2, (1 + a % 3) + e % ((1 + d % 2) * (1 + a % 3) + 1), 1 + f % ((1 + c % 3) * (1 + d % 2) * (1 + a % 3))⟩
structure Ok8 (a b c d e f : Int) : Prop where
  a : 0 ≤ a ∧ a < 256
  b : 0 ≤ b ∧ b < 256
  c : 0 ≤ c ∧ c < 256
  d : 0 ≤ d ∧ d < 256
  e : 0 ≤ e ∧ e < 256
  f : 0 ≤ f ∧ f < 256
section
attribute [local go_sem] go_max2 go_min2 go_max_two go_min_two
theorem mx_a : mxI 20 32 = 32 := rfl
theorem mx_b : mxI 25 32 = 32 := rfl
theorem mx_c : mxI 30 32 = 32 := rfl
set_option maxHeartbeats 8000000 in
set_option maxRecDepth 100000 in
theorem shape_ok (a b c d e f : Int) (w : World) (h : Ok8 a b c d e f) :
    Calls Try.prog 19 #[.agg #[.int .u8 a, .int .u8 b, .int .u8 c, .int .u8 d, .int .u8 e, .int .u8 f]] w fun en w' => en = .returned (.agg (shv (shOf a b c d e f))) ∧ Below w.heap.size w w' := by
  obtain ⟨⟨p0, q0⟩, ⟨p1, q1⟩, ⟨p2, q2⟩, ⟨p3, q3⟩, ⟨p4, q4⟩, p5, q5⟩ := h
  have g0 : a % 3 = 0 ∨ a % 3 = 1 ∨ a % 3 = 2 := by omega
  have g2 : c % 3 = 0 ∨ c % 3 = 1 ∨ c % 3 = 2 := by omega
  have g3 : d % 2 = 0 ∨ d % 2 = 1 := by omega
  unfold shOf shv
  have x1 := mx_a
  have x2 := mx_b
  have x3 := mx_c
  rcases g0 with e0 | e0 | e0 <;> rcases g2 with e2 | e2 | e2 <;> rcases g3 with e3 | e3 <;>
    (rw [e0, e2, e3]
     go_enter Try.func19, Try.ntmps19
     go_wp2
     refine bodyPost_ret (v := .agg #[.int .i64 _, .int .i64 _, .int .i64 _, .int .i64 _, .int .i64 _, .int .i64 _]) (by simp [results, Try.results19, go_sem]; exact ⟨rfl, rfl, rfl, rfl, rfl, rfl⟩) rfl ⟨by first | rfl | simp, by repeat' (first | (with_reducible exact Below.refl _ _) | (with_reducible refine Below.drew ?_) | (with_reducible refine Below.alloc ?_ ?_ _) | (with_reducible exact Nat.le_refl _) | (simp; done) | (simp; omega))⟩)
end
theorem shOf_m {a b c d e f : Int} (h : Ok8 a b c d e f) : (3 ≤ (shOf a b c d e f).m ∧ (shOf a b c d e f).m ≤ 5) ∧ (32 ≤ (shOf a b c d e f).b ∧ (shOf a b c d e f).b ≤ 40) ∧ (4 ≤ (shOf a b c d e f).s ∧ (shOf a b c d e f).s ≤ 6) ∧ (2 ≤ (shOf a b c d e f).t ∧ (shOf a b c d e f).t ≤ 3) := by
  obtain ⟨⟨p0, q0⟩, ⟨p1, q1⟩, ⟨p2, q2⟩, ⟨p3, q3⟩, ⟨p4, q4⟩, p5, q5⟩ := h
  simp only [shOf]
  omega
theorem shOf_nl {a b c d e f : Int} (h : Ok8 a b c d e f) : ((shOf a b c d e f).m - 2 ≤ (shOf a b c d e f).n ∧ (shOf a b c d e f).n ≤ (shOf a b c d e f).t * ((shOf a b c d e f).m - 2) ∧ (shOf a b c d e f).n ≤ 9) ∧ 1 ≤ (shOf a b c d e f).l ∧ (shOf a b c d e f).l ≤ ((shOf a b c d e f).s - 3) * ((shOf a b c d e f).t - 1) * ((shOf a b c d e f).m - 2) ∧ (shOf a b c d e f).l ≤ 18 := by
  obtain ⟨⟨p0, q0⟩, ⟨p1, q1⟩, ⟨p2, q2⟩, ⟨p3, q3⟩, ⟨p4, q4⟩, p5, q5⟩ := h
  have g0 : a % 3 = 0 ∨ a % 3 = 1 ∨ a % 3 = 2 := by omega
  have g2 : c % 3 = 0 ∨ c % 3 = 1 ∨ c % 3 = 2 := by omega
  have g3 : d % 2 = 0 ∨ d % 2 = 1 := by omega
  simp only [shOf]
  rcases g0 with e0 | e0 | e0 <;> rcases g2 with e2 | e2 | e2 <;> rcases g3 with e3 | e3 <;> (rw [e0, e2, e3]; omega)
theorem shOf_may {a b c d e f : Int} (h : Ok8 a b c d e f) : mayB (shOf a b c d e f) = true := by
  obtain ⟨h1, h2, h3, h4⟩ := shOf_m h
  obtain ⟨⟨h5, h6, h7⟩, h8, h9, h10⟩ := shOf_nl h
  generalize shOf a b c d e f = x at *
  unfold mayB
  simp only [Bool.and_eq_true, inB_iff]
  have m1 : mxI (15 + 5 * (x.m - 2)) 32 ≤ x.b := by unfold mxI; split <;> omega
  have m2 : x.n ≤ mnI (x.t * (x.m - 2)) 256 := by unfold mnI; split <;> omega
  exact ⟨⟨⟨⟨⟨⟨by omega, by omega⟩, by omega, by omega⟩, by omega, by omega⟩, m1, by omega⟩, by omega, m2⟩, h8, h9⟩
end Go.Proofs.Ytcpngnnnggpfpaa
