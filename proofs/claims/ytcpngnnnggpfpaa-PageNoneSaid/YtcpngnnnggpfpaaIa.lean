/- Full and Awake of chapter 5. No further condition. -/
import Derived.Test.YtcpngnnnggpfpaaSs
import Derived.Test.YtcpngnnnggpfpaaIe
namespace Go.Proofs.Ytcpngnnnggpfpaa
open Go.RowKit
attribute [local go_sem ↓] Go.wp_at_zero Go.wp_at_succ

theorem parity_ok (x : Sh) (t : Nat) (m : Nat) (hm : x.m = m) (h0 : 0 < m) (w : World) : Calls Try.prog 43 #[.agg #[.int .i64 x.m, .int .i64 x.b, .int .i64 x.s, .int .i64 x.t, .int .i64 x.n, .int .i64 x.l], .int .i64 t] w fun e w' => e = .returned (.int .i64 ((t % m : Nat) : Int)) ∧ Below w.heap.size w w' := by
  obtain ⟨q, hq⟩ : ∃ q, q = t % m := ⟨_, rfl⟩
  have e1 : (t : Int).tmod (m : Int) = q := by rw [Int.tmod_eq_emod_of_nonneg (by omega), hq]; rfl
  have e2 : (t : Int) % (m : Int) = q := by rw [hq]; rfl
  have e3 : ((m : Int) == 0) = false := by simp; omega
  rw [hm, ← hq]
  clear hq
  go_enter Try.func43, Try.ntmps43
  go_wp2
  go_ret
  exact ⟨rfl, (Below.refl _ _).alloc (Nat.le_refl _) _⟩
theorem member_ok (x : Sh) (t c : Nat) (m : Nat) (hm : x.m = m) (h0 : 0 < m) (ht : t ≤ 1000000) (hc : c ≤ 1000000) (w : World) : Calls Try.prog 44 #[.agg #[.int .i64 x.m, .int .i64 x.b, .int .i64 x.s, .int .i64 x.t, .int .i64 x.n, .int .i64 x.l], .int .i64 t, .int .i64 c] w fun e w' => e = .returned (.int .i64 (((t + 1 + c) % m : Nat) : Int)) ∧ Below w.heap.size w w' := by
  obtain ⟨s, hs⟩ : ∃ s, s = t + 1 + c := ⟨_, rfl⟩
  obtain ⟨q, hq⟩ : ∃ q, q = s % m := ⟨_, rfl⟩
  have e0 : (t : Int) + 1 + c = s := by omega
  have e1 : (s : Int).tmod (m : Int) = q := by rw [Int.tmod_eq_emod_of_nonneg (by omega), hq]; rfl
  have e2 : (s : Int) % (m : Int) = q := by rw [hq]; rfl
  have e3 : ((m : Int) == 0) = false := by simp; omega
  have e4 : IntKind.i64.wrap (s : Int) = s := IntWalk.i64_in _ (by omega)
  have e5 : IntKind.i64.wrap ((t : Int) + 1) = (t : Int) + 1 := IntWalk.i64_in _ (by omega)
  rw [hm, ← hs, ← hq]
  clear hq hs
  go_enter Try.func44, Try.ntmps44
  go_wp2
  go_ret
  exact ⟨rfl, (Below.refl _ _).alloc (Nat.le_refl _) _⟩
theorem aw1 (W : World) : Calls Try.prog 8 #[.agg #[.int .i64 3, .int .i64 32, .int .i64 4, .int .i64 2, .int .i64 2, .int .i64 1]] W fun e w' => e = .returned (.int .i64 0) ∧ Below W.heap.size W w' := by
  have h := check_ok ⟨3, 32, 4, 2, 2, 1⟩ W
  rw [show chk ⟨3, 32, 4, 2, 2, 1⟩ = 0 by decide] at h
  exact h
theorem aw2 (W : World) : Calls Try.prog 43 #[.agg #[.int .i64 3, .int .i64 32, .int .i64 4, .int .i64 2, .int .i64 2, .int .i64 1], .int .i64 1] W fun e w' => e = .returned (.int .i64 1) ∧ Below W.heap.size W w' := parity_ok ⟨3, 32, 4, 2, 2, 1⟩ 1 3 rfl (by decide) W
theorem aw3 (W : World) : Calls Try.prog 44 #[.agg #[.int .i64 3, .int .i64 32, .int .i64 4, .int .i64 2, .int .i64 2, .int .i64 1], .int .i64 1, .int .i64 0] W fun e w' => e = .returned (.int .i64 2) ∧ Below W.heap.size W w' := member_ok ⟨3, 32, 4, 2, 2, 1⟩ 1 0 3 rfl (by decide) (by decide) (by decide) W
theorem aw4 (W : World) : Calls Try.prog 44 #[.agg #[.int .i64 3, .int .i64 32, .int .i64 4, .int .i64 2, .int .i64 2, .int .i64 1], .int .i64 1, .int .i64 1] W fun e w' => e = .returned (.int .i64 0) ∧ Below W.heap.size W w' := member_ok ⟨3, 32, 4, 2, 2, 1⟩ 1 1 3 rfl (by decide) (by decide) (by decide) W
set_option maxRecDepth 100000 in
set_option maxHeartbeats 6400000 in
theorem awake5_ok (w : World) : Calls Try.prog 20 #[] w fun e w' => e = .returned (.bool true) ∧ Below w.heap.size w w' := by
  have HB0 := Lib.hid ((Below.refl w.heap.size w).alloc (Nat.le_refl _) (.cells #[.int .i64 3, .int .i64 32, .int .i64 4, .int .i64 2, .int .i64 2, .int .i64 1] 23))
  have HS0 := Lib.hid (Blk.new w 23 #[.int .i64 3, .int .i64 32, .int .i64 4, .int .i64 2, .int .i64 2, .int .i64 1])
  go_enter Try.func20, Try.ntmps20
  go_wp2_with (first
    | (go_at_call 8; (with_reducible refine (aw1 _).mono ?_); rintro e w1 ⟨rfl, hb1⟩; have HB1 := Lib.hid (HB0.out.trans (hb1.mono HB0.out.size)); have HS1 := Lib.hid (HS0.out.later hb1); obtain ⟨p0, p1, p2, p3, p4, p5⟩ := HS1.out.cells6; clear hb1)
    | (go_at_call 43; (with_reducible refine (aw2 _).mono ?_); rintro e w2 ⟨rfl, hb2⟩; have HB2 := Lib.hid (HB1.out.trans (hb2.mono HB1.out.size)); have HS2 := Lib.hid (HS1.out.later hb2); obtain ⟨q0, q1, q2, q3, q4, q5⟩ := HS2.out.cells6; clear hb2)
    | (go_at_call 44; (with_reducible refine (aw3 _).mono ?_); rintro e w3 ⟨rfl, hb3⟩; have HB3 := Lib.hid (HB2.out.trans (hb3.mono HB2.out.size)); have HS3 := Lib.hid (HS2.out.later hb3); obtain ⟨r0, r1, r2, r3, r4, r5⟩ := HS3.out.cells6; clear hb3)
    | (go_at_call 44; (with_reducible refine (aw4 _).mono ?_); rintro e w4 ⟨rfl, hb4⟩; have HB4 := Lib.hid (HB3.out.trans (hb4.mono HB3.out.size)); clear hb4)
    | fail "no")
  go_ret
  exact ⟨rfl, HB4.out⟩
theorem ok8_of {a b c d e f : Int} (h0 : (Lit.int .u8 a).wf = true) (h1 : (Lit.int .u8 b).wf = true) (h2 : (Lit.int .u8 c).wf = true) (h3 : (Lit.int .u8 d).wf = true) (h4 : (Lit.int .u8 e).wf = true) (h5 : (Lit.int .u8 f).wf = true) : Ok8 a b c d e f :=
  ⟨u8_in_ h0, u8_in_ h1, u8_in_ h2, u8_in_ h3, u8_in_ h4, u8_in_ h5⟩
theorem sh_end2 {Q : Ending → World → Prop} (t : Array Value) (W : World) {R : Nat} {a b c d e f : Value} (hb : Blk W R 23 #[a, b, c, d, e, f]) (h4 : t.getD 2 undef = .pointer (some ⟨R, 0, none⟩))
    (hQ : Q (.returned (.agg #[a, b, c, d, e, f])) W) : bodyPost Try.prog Try.f11 Q Exit.ret ⟨t, []⟩ W :=
  bodyPost_ret (results_cell_row (by kernel_rfl) t W R 23 #[a, b, c, d, e, f] (0, 0) _ h4 hb Try.underlying23 rfl (by kernel_rfl)) rfl hQ
theorem set6 (a b c d e f x y z u v k : Value) : ((((((#[a, b, c, d, e, f] : Array Value).setIfInBounds 0 x).setIfInBounds 1 y).setIfInBounds 2 z).setIfInBounds 3 u).setIfInBounds 4 v).setIfInBounds 5 k = #[x, y, z, u, v, k] := rfl
def fullOf (a b c d e f : Int) : Sh := ⟨(shOf a b c d e f).m, (shOf a b c d e f).b, (shOf a b c d e f).s, (shOf a b c d e f).t, (shOf a b c d e f).n, ((shOf a b c d e f).s - 3) * ((shOf a b c d e f).t - 1) * ((shOf a b c d e f).m - 2)⟩
theorem full_m {a b c d e f : Int} (h : Ok8 a b c d e f) : (3 ≤ (fullOf a b c d e f).m ∧ (fullOf a b c d e f).m ≤ 5) ∧ (32 ≤ (fullOf a b c d e f).b ∧ (fullOf a b c d e f).b ≤ 40) ∧ (4 ≤ (fullOf a b c d e f).s ∧ (fullOf a b c d e f).s ≤ 6) ∧ (2 ≤ (fullOf a b c d e f).t ∧ (fullOf a b c d e f).t ≤ 3) := shOf_m h
theorem mul3 (s t m : Int) (hs : 4 ≤ s ∧ s ≤ 6) (ht : 2 ≤ t ∧ t ≤ 3) (hm : 3 ≤ m ∧ m ≤ 5) : (1 ≤ (s - 3) * (t - 1) ∧ (s - 3) * (t - 1) ≤ 6) ∧ (1 ≤ (s - 3) * (t - 1) * (m - 2) ∧ (s - 3) * (t - 1) * (m - 2) ≤ 18) := by
  have h1 : s = 4 ∨ s = 5 ∨ s = 6 := by omega
  have h2 : t = 2 ∨ t = 3 := by omega
  have h3 : m = 3 ∨ m = 4 ∨ m = 5 := by omega
  rcases h1 with rfl | rfl | rfl <;> rcases h2 with rfl | rfl <;> rcases h3 with rfl | rfl | rfl <;> decide
theorem full_may {a b c d e f : Int} (h : Ok8 a b c d e f) : mayB (fullOf a b c d e f) = true := by
  have h1 := shOf_may h
  obtain ⟨m1, m2, m3, m4⟩ := shOf_m h
  have h2 := mul3 _ _ _ m3 m4 m1
  unfold mayB at h1 ⊢
  simp only [fullOf]
  simp only [Bool.and_eq_true] at h1 ⊢
  exact ⟨h1.1, by unfold inB; exact decide_eq_true ⟨h2.2.1, Int.le_refl _⟩⟩
set_option maxRecDepth 100000 in
set_option maxHeartbeats 6400000 in
theorem full_ok (a b c d e f : Int) (w : World) (h : Ok8 a b c d e f) :
    Calls Try.prog 11 #[.agg #[.int .u8 a, .int .u8 b, .int .u8 c, .int .u8 d, .int .u8 e, .int .u8 f]] w fun en w' => en = .returned (.agg #[.int .i64 (fullOf a b c d e f).m, .int .i64 (fullOf a b c d e f).b, .int .i64 (fullOf a b c d e f).s, .int .i64 (fullOf a b c d e f).t, .int .i64 (fullOf a b c d e f).n, .int .i64 (fullOf a b c d e f).l]) ∧ Below w.heap.size w w' := by
  obtain ⟨m1, m2, m3, m4⟩ := shOf_m h
  have h2 := mul3 _ _ _ m3 m4 m1
  have hsh := fun W => shape_ok a b c d e f W h
  unfold shv at hsh
  unfold fullOf
  generalize shOf a b c d e f = x at *
  obtain ⟨p1, hp1⟩ : ∃ p1, p1 = (x.s - 3) * (x.t - 1) := ⟨_, rfl⟩
  obtain ⟨p2, hp2⟩ : ∃ p2, p2 = p1 * (x.m - 2) := ⟨_, rfl⟩
  simp only
  rw [← hp1, ← hp2] at h2 ⊢
  have e1 : IntKind.i64.wrap ((x.s - 3) * (x.t - 1)) = p1 := by rw [← hp1]; exact IntWalk.i64_in _ (by omega)
  have e2 : IntKind.i64.wrap (p1 * (x.m - 2)) = p2 := by rw [← hp2]; exact IntWalk.i64_in _ (by omega)
  have HSH := Lib.hid hsh
  have hb : Below w.heap.size w ((w.alloc (.cells #[.int .u8 a, .int .u8 b, .int .u8 c, .int .u8 d, .int .u8 e, .int .u8 f] 38)).alloc (.cells #[.int .i64 0, .int .i64 0, .int .i64 0, .int .i64 0, .int .i64 0, .int .i64 0] 23)) := ((Below.refl _ _).alloc (Nat.le_refl _) _).alloc (by simp) _
  have hr : Blk ((w.alloc (.cells #[.int .u8 a, .int .u8 b, .int .u8 c, .int .u8 d, .int .u8 e, .int .u8 f] 38)).alloc (.cells #[.int .i64 0, .int .i64 0, .int .i64 0, .int .i64 0, .int .i64 0, .int .i64 0] 23)) (w.heap.size + 1) 23 #[.int .i64 0, .int .i64 0, .int .i64 0, .int .i64 0, .int .i64 0, .int .i64 0] := Blk.new_ _ _ _ (by simp)
  have HB := Lib.hid hb
  have HR := Lib.hid hr
  clear hsh hb hr h hp1 hp2
  go_enter Try.func11, Try.ntmps11
  go_wp2_with (go_at_call 19; (with_reducible refine (HSH.out _).mono ?_); rintro e w1 ⟨rfl, hb1⟩; have HB1 := Lib.hid (HB.out.trans (hb1.mono HB.out.size)); have HR1 := Lib.hid (HR.out.later hb1); clear hb1; obtain ⟨r0, r1, r2, r3, r4, r5⟩ := HR1.out.cells6; have f0 := HR1.out.frozen 0; have f1 := HR1.out.frozen 1; have f2 := HR1.out.frozen 2; have f3 := HR1.out.frozen 3; have f4 := HR1.out.frozen 4; have f5 := HR1.out.frozen 5; have hlt := HR1.out.lt; have hne : w1.heap.size ≠ w.heap.size + 1 := by omega)
  have hset := (((((HR1.out.set_ 0 (.int .i64 x.m)).set_ 1 (.int .i64 x.b)).set_ 2 (.int .i64 x.s)).set_ 3 (.int .i64 x.t)).set_ 4 (.int .i64 x.n)).set_ 5 (.int .i64 p2)
  rw [set6] at hset
  have hfr : Fr (· = w.heap.size + 1) w1 ((((((w1.setCell ⟨w.heap.size + 1, 0, none⟩ (.int .i64 x.m)).setCell ⟨w.heap.size + 1, 1, none⟩ (.int .i64 x.b)).setCell ⟨w.heap.size + 1, 2, none⟩ (.int .i64 x.s)).setCell ⟨w.heap.size + 1, 3, none⟩ (.int .i64 x.t)).setCell ⟨w.heap.size + 1, 4, none⟩ (.int .i64 x.n)).setCell ⟨w.heap.size + 1, 5, none⟩ (.int .i64 p2)) :=
    (((((((Fr.refl (· = w.heap.size + 1) w1).setCell (p := ⟨w.heap.size + 1, 0, none⟩) (.inl rfl) _).setCell (p := ⟨w.heap.size + 1, 1, none⟩) (.inl rfl) _).setCell (p := ⟨w.heap.size + 1, 2, none⟩) (.inl rfl) _).setCell (p := ⟨w.heap.size + 1, 3, none⟩) (.inl rfl) _).setCell (p := ⟨w.heap.size + 1, 4, none⟩) (.inl rfl) _).setCell (p := ⟨w.heap.size + 1, 5, none⟩) (.inl rfl) _)
  have hbw := (HB1.out.trans (hfr.toBelow HB1.out.size fun b hb e => by omega))
  exact sh_end2 _ _ (hset.alloc _) rfl ⟨rfl, hbw.alloc hbw.size _⟩
end Go.Proofs.Ytcpngnnnggpfpaa
