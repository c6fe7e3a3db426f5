/- Awake of chapter 5, Parity and Member. No further condition. -/
import Derived.Test.YtidakgfblehipaaSs
namespace Go.Proofs.Ytidakgfblehipaa
open Go.RowKit
attribute [local go_sem ↓] Go.wp_at_zero Go.wp_at_succ

theorem parity_ok (x : Sh) (t : Nat) (m : Nat) (hm : x.m = m) (h0 : 0 < m) (w : World) : Calls Try.prog 15 #[.agg #[.int .i64 x.m, .int .i64 x.b, .int .i64 x.s, .int .i64 x.t, .int .i64 x.n, .int .i64 x.l], .int .i64 t] w fun e w' => e = .returned (.int .i64 ((t % m : Nat) : Int)) ∧ Below w.heap.size w w' := by
  obtain ⟨q, hq⟩ : ∃ q, q = t % m := ⟨_, rfl⟩
  have e1 : (t : Int).tmod (m : Int) = q := by rw [Int.tmod_eq_emod_of_nonneg (by omega), hq]; rfl
  have e2 : (t : Int) % (m : Int) = q := by rw [hq]; rfl
  have e3 : ((m : Int) == 0) = false := by simp; omega
  rw [hm, ← hq]
  clear hq
  go_enter Try.func15, Try.ntmps15
  go_wp2
  go_ret
  exact ⟨rfl, (Below.refl _ _).alloc (Nat.le_refl _) _⟩
theorem member_ok (x : Sh) (t c : Nat) (m : Nat) (hm : x.m = m) (h0 : 0 < m) (ht : t ≤ 1000000) (hc : c ≤ 1000000) (w : World) : Calls Try.prog 16 #[.agg #[.int .i64 x.m, .int .i64 x.b, .int .i64 x.s, .int .i64 x.t, .int .i64 x.n, .int .i64 x.l], .int .i64 t, .int .i64 c] w fun e w' => e = .returned (.int .i64 (((t + 1 + c) % m : Nat) : Int)) ∧ Below w.heap.size w w' := by
  obtain ⟨s, hs⟩ : ∃ s, s = t + 1 + c := ⟨_, rfl⟩
  obtain ⟨q, hq⟩ : ∃ q, q = s % m := ⟨_, rfl⟩
  have e0 : (t : Int) + 1 + c = s := by omega
  have e1 : (s : Int).tmod (m : Int) = q := by rw [Int.tmod_eq_emod_of_nonneg (by omega), hq]; rfl
  have e2 : (s : Int) % (m : Int) = q := by rw [hq]; rfl
  have e3 : ((m : Int) == 0) = false := by simp; omega
  have e4 : IntKind.i64.wrap (s : Int) = s := IntWalk.i64_in _ (by omega)
  have e5 : IntKind.i64.wrap ((t : Int) + 1) = (t : Int) + 1 := IntWalk.i64_in _ (by omega)
  rw [hm, ← hs, ← hq]
  clear hq hs
  go_enter Try.func16, Try.ntmps16
  go_wp2
  go_ret
  exact ⟨rfl, (Below.refl _ _).alloc (Nat.le_refl _) _⟩
theorem aw1 (W : World) : Calls Try.prog 11 #[.agg #[.int .i64 3, .int .i64 32, .int .i64 4, .int .i64 2, .int .i64 2, .int .i64 1]] W fun e w' => e = .returned (.int .i64 0) ∧ Below W.heap.size W w' := by
  have h := check_ok ⟨3, 32, 4, 2, 2, 1⟩ W
  rw [show chk ⟨3, 32, 4, 2, 2, 1⟩ = 0 by decide] at h
  exact h
theorem aw2 (W : World) : Calls Try.prog 15 #[.agg #[.int .i64 3, .int .i64 32, .int .i64 4, .int .i64 2, .int .i64 2, .int .i64 1], .int .i64 1] W fun e w' => e = .returned (.int .i64 1) ∧ Below W.heap.size W w' := parity_ok ⟨3, 32, 4, 2, 2, 1⟩ 1 3 rfl (by decide) W
theorem aw3 (W : World) : Calls Try.prog 16 #[.agg #[.int .i64 3, .int .i64 32, .int .i64 4, .int .i64 2, .int .i64 2, .int .i64 1], .int .i64 1, .int .i64 0] W fun e w' => e = .returned (.int .i64 2) ∧ Below W.heap.size W w' := member_ok ⟨3, 32, 4, 2, 2, 1⟩ 1 0 3 rfl (by decide) (by decide) (by decide) W
theorem aw4 (W : World) : Calls Try.prog 16 #[.agg #[.int .i64 3, .int .i64 32, .int .i64 4, .int .i64 2, .int .i64 2, .int .i64 1], .int .i64 1, .int .i64 1] W fun e w' => e = .returned (.int .i64 0) ∧ Below W.heap.size W w' := member_ok ⟨3, 32, 4, 2, 2, 1⟩ 1 1 3 rfl (by decide) (by decide) (by decide) W
theorem Blk.cells6 {w : World} {g : Nat} {t : TypeId} {a b c d e f : Value} (h : Blk w g t #[a, b, c, d, e, f]) : w.cell? ⟨g, 0, none⟩ = some a ∧ w.cell? ⟨g, 1, none⟩ = some b ∧ w.cell? ⟨g, 2, none⟩ = some c ∧ w.cell? ⟨g, 3, none⟩ = some d ∧ w.cell? ⟨g, 4, none⟩ = some e ∧ w.cell? ⟨g, 5, none⟩ = some f :=
  ⟨h.at_ rfl, h.at_ rfl, h.at_ rfl, h.at_ rfl, h.at_ rfl, h.at_ rfl⟩
set_option maxRecDepth 100000 in
set_option maxHeartbeats 6400000 in
theorem awake_ok (w : World) : Calls Try.prog 10 #[] w fun e w' => e = .returned (.bool true) ∧ Below w.heap.size w w' := by
  have HB0 := Lib.hid ((Below.refl w.heap.size w).alloc (Nat.le_refl _) (.cells #[.int .i64 3, .int .i64 32, .int .i64 4, .int .i64 2, .int .i64 2, .int .i64 1] 23))
  have HS0 := Lib.hid (Blk.new w 23 #[.int .i64 3, .int .i64 32, .int .i64 4, .int .i64 2, .int .i64 2, .int .i64 1])
  go_enter Try.func10, Try.ntmps10
  go_wp2_with (first
    | (go_at_call 11; (with_reducible refine (aw1 _).mono ?_); rintro e w1 ⟨rfl, hb1⟩; have HB1 := Lib.hid (HB0.out.trans (hb1.mono HB0.out.size)); have HS1 := Lib.hid (HS0.out.later hb1); obtain ⟨p0, p1, p2, p3, p4, p5⟩ := HS1.out.cells6; clear hb1)
    | (go_at_call 15; (with_reducible refine (aw2 _).mono ?_); rintro e w2 ⟨rfl, hb2⟩; have HB2 := Lib.hid (HB1.out.trans (hb2.mono HB1.out.size)); have HS2 := Lib.hid (HS1.out.later hb2); obtain ⟨q0, q1, q2, q3, q4, q5⟩ := HS2.out.cells6; clear hb2)
    | (go_at_call 16; (with_reducible refine (aw3 _).mono ?_); rintro e w3 ⟨rfl, hb3⟩; have HB3 := Lib.hid (HB2.out.trans (hb3.mono HB2.out.size)); have HS3 := Lib.hid (HS2.out.later hb3); obtain ⟨r0, r1, r2, r3, r4, r5⟩ := HS3.out.cells6; clear hb3)
    | (go_at_call 16; (with_reducible refine (aw4 _).mono ?_); rintro e w4 ⟨rfl, hb4⟩; have HB4 := Lib.hid (HB3.out.trans (hb4.mono HB3.out.size)); clear hb4)
    | fail "no")
  go_ret
  exact ⟨rfl, HB4.out⟩
theorem u8_in_ {b : Int} (h : (Lit.int .u8 b).wf = true) : 0 ≤ b ∧ b < 256 := by simp [Lit.wf, IntKind.min, IntKind.max, IntKind.bits, IntKind.signed] at h; omega
theorem ok8_of {a b c d e f : Int} (h0 : (Lit.int .u8 a).wf = true) (h1 : (Lit.int .u8 b).wf = true) (h2 : (Lit.int .u8 c).wf = true) (h3 : (Lit.int .u8 d).wf = true) (h4 : (Lit.int .u8 e).wf = true) (h5 : (Lit.int .u8 f).wf = true) : Ok8 a b c d e f :=
  ⟨u8_in_ h0, u8_in_ h1, u8_in_ h2, u8_in_ h3, u8_in_ h4, u8_in_ h5⟩
theorem shapeL (a b c d e f : Int) (x : Sh) (hx : x = shOf a b c d e f) (h : Ok8 a b c d e f) (w : World) :
    Calls Try.prog 13 #[.agg #[.int .u8 a, .int .u8 b, .int .u8 c, .int .u8 d, .int .u8 e, .int .u8 f]] w fun en w' => en = .returned (.agg #[.int .i64 x.m, .int .i64 x.b, .int .i64 x.s, .int .i64 x.t, .int .i64 x.n, .int .i64 x.l]) ∧ Below w.heap.size w w' := by
  subst hx
  exact shape_ok a b c d e f w h
end Go.Proofs.Ytidakgfblehipaa
