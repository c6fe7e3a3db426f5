/- The walk of PageNone. No further condition. -/
import Derived.Test.YtcpngnnnggpfpaaIb
import Derived.Test.YtcpngnnnggpfpaaIv
namespace Go.Proofs.Ytcpngnnnggpfpaa
open Go.RowKit Go.ChangeShapes Go.WideShapes Go.Deep
attribute [local go_sem ↓] Go.wp_at_zero Go.wp_at_succ

/-- The shape's block, the image's. -/
structure Dn (w0 w : World) (x : Sh) (im : Array Value) : Prop where
  sh : Blk w w0.heap.size 23 #[.int .i64 x.m, .int .i64 x.b, .int .i64 x.s, .int .i64 x.t, .int .i64 x.n, .int .i64 x.l]
  im : Blk w (w0.heap.size + 1) 28 im
  bel : Below w0.heap.size w0 w
theorem Dn.later {w0 w w' : World} {x : Sh} {im : Array Value} (k : Dn w0 w x im) (hb : Below w.heap.size w w') : Dn w0 w' x im := ⟨k.sh.later hb, k.im.later hb, k.bel.trans (hb.mono k.bel.size)⟩
theorem Dn.start (w : World) (x : Sh) (im : Array Value) : Dn w ((w.alloc (.cells #[.int .i64 x.m, .int .i64 x.b, .int .i64 x.s, .int .i64 x.t, .int .i64 x.n, .int .i64 x.l] 23)).alloc (.cells im 28)) x im :=
  ⟨(Blk.new w 23 _).alloc _, Blk.new_ _ _ _ (by simp), ((Below.refl _ _).alloc (Nat.le_refl _) _).alloc (by simp) _⟩
set_option maxRecDepth 100000 in
set_option maxHeartbeats 12800000 in
theorem none_walk (x : Sh) (gen a b c : Int) (A B L : Option Addr) (n1 c1 n2 c2 n3 c3 : Nat) (w : World) :
    Calls Try.prog 3 #[.agg #[.int .i64 x.m, .int .i64 x.b, .int .i64 x.s, .int .i64 x.t, .int .i64 x.n, .int .i64 x.l], .int .u64 gen, .agg #[.int .u64 a, .int .i64 b, .int .i64 c, .slice A n1 c1, .slice B n2 c2], .slice L n3 c3] w fun e w' => e = .returned (.bool true) ∧ Below w.heap.size w w' := by
  have HAW := Lib.hid awake_ok
  have HCK := Lib.hid (fun W => check_ok x W)
  have HD := Lib.hid (Dn.start w x #[.int .u64 a, .int .i64 b, .int .i64 c, .slice A n1 c1, .slice B n2 c2])
  by_cases hb1 : 80 < n1
  · have g1 : (80 : Int) < n1 := by omega
    clear HCK
    go_enter Try.func3, Try.ntmps3
    go_wp2_with (go_at_call 7; (with_reducible refine (HAW.out _).mono ?_); rintro e w1 ⟨rfl, hb1⟩; have HD1 := Lib.hid (HD.out.later hb1); clear hb1; obtain ⟨i0, i1, i2, i3, i4⟩ := HD1.out.im.cells5; obtain ⟨s0, s1, s2, s3, s4, s5⟩ := HD1.out.sh.cells6)
    go_ret
    exact ⟨rfl, HD1.out.bel⟩
  by_cases hb2 : 300 < n2
  · have g1 : ¬ (80 : Int) < n1 := by omega
    have g1' : decide ((80 : Int) < n1) = false := decide_eq_false g1
    have g2 : (300 : Int) < n2 := by omega
    clear HCK
    go_enter Try.func3, Try.ntmps3
    go_wp2_with (go_at_call 7; (with_reducible refine (HAW.out _).mono ?_); rintro e w1 ⟨rfl, hb1⟩; have HD1 := Lib.hid (HD.out.later hb1); clear hb1; obtain ⟨i0, i1, i2, i3, i4⟩ := HD1.out.im.cells5; obtain ⟨s0, s1, s2, s3, s4, s5⟩ := HD1.out.sh.cells6)
    go_ret
    exact ⟨rfl, HD1.out.bel⟩
  by_cases hb3 : 40 < n3
  · have g1 : ¬ (80 : Int) < n1 := by omega
    have g1' : decide ((80 : Int) < n1) = false := decide_eq_false g1
    have g2 : ¬ (300 : Int) < n2 := by omega
    have g2' : decide ((300 : Int) < n2) = false := decide_eq_false g2
    have g3 : (40 : Int) < n3 := by omega
    clear HCK
    go_enter Try.func3, Try.ntmps3
    go_wp2_with (go_at_call 7; (with_reducible refine (HAW.out _).mono ?_); rintro e w1 ⟨rfl, hb1⟩; have HD1 := Lib.hid (HD.out.later hb1); clear hb1; obtain ⟨i0, i1, i2, i3, i4⟩ := HD1.out.im.cells5; obtain ⟨s0, s1, s2, s3, s4, s5⟩ := HD1.out.sh.cells6)
    go_ret
    exact ⟨rfl, HD1.out.bel⟩
  have g1 : ¬ (80 : Int) < n1 := by omega
  have g1' : decide ((80 : Int) < n1) = false := decide_eq_false g1
  have g2 : ¬ (300 : Int) < n2 := by omega
  have g2' : decide ((300 : Int) < n2) = false := decide_eq_false g2
  have g3 : ¬ (40 : Int) < n3 := by omega
  have g3' : decide ((40 : Int) < n3) = false := decide_eq_false g3
  clear hb1 hb2 hb3
  by_cases h0 : chk x = 0
  · have hck := HCK.out
    rw [h0] at hck
    have HCK := Lib.hid hck
    by_cases h1 : (n1 : Int) = x.s
    · have e1 : ((n1 : Int) == x.s) = true := by rw [h1]; simp
      by_cases h2 : (n2 : Int) = x.l
      · have e2 : ((n2 : Int) == x.l) = true := by rw [h2]; simp
        clear h1 h2 h0 hck
        go_enter Try.func3, Try.ntmps3
        go_wp2_with (first
          | (go_at_call 7; (with_reducible refine (HAW.out _).mono ?_); rintro e w1 ⟨rfl, hb1⟩; have HD1 := Lib.hid (HD.out.later hb1); clear hb1; obtain ⟨i0, i1, i2, i3, i4⟩ := HD1.out.im.cells5; obtain ⟨s0, s1, s2, s3, s4, s5⟩ := HD1.out.sh.cells6)
          | (go_at_call 8; (with_reducible refine (HCK.out _).mono ?_); rintro e w2 ⟨rfl, hb2⟩; have HD2 := Lib.hid (HD1.out.later hb2); clear hb2; obtain ⟨p0, p1, p2, p3, p4⟩ := HD2.out.im.cells5; obtain ⟨q0, q1, q2, q3, q4, q5⟩ := HD2.out.sh.cells6))
        go_ret
        exact ⟨rfl, HD2.out.bel⟩
      · have e2 : ((n2 : Int) == x.l) = false := beq_eq_false_iff_ne.2 h2
        have hen := fun W => enc_none x gen a b c A B n1 c1 n2 c2 W (.inr (.inr h2))
        have HEN := Lib.hid hen
        clear h1 h2 h0 hck hen
        go_enter Try.func3, Try.ntmps3
        go_wp2_with (first
          | (go_at_call 7; (with_reducible refine (HAW.out _).mono ?_); rintro e w1 ⟨rfl, hb1⟩; have HD1 := Lib.hid (HD.out.later hb1); clear hb1; obtain ⟨i0, i1, i2, i3, i4⟩ := HD1.out.im.cells5; obtain ⟨s0, s1, s2, s3, s4, s5⟩ := HD1.out.sh.cells6)
          | (go_at_call 8; (with_reducible refine (HCK.out _).mono ?_); rintro e w2 ⟨rfl, hb2⟩; have HD2 := Lib.hid (HD1.out.later hb2); clear hb2; obtain ⟨p0, p1, p2, p3, p4⟩ := HD2.out.im.cells5; obtain ⟨q0, q1, q2, q3, q4, q5⟩ := HD2.out.sh.cells6)
          | (go_at_call 9; (with_reducible refine (HEN.out _).mono ?_); rintro e w3 ⟨rfl, hb3⟩; have HD3 := Lib.hid (HD2.out.later hb3); clear hb3))
        go_ret
        exact ⟨rfl, HD3.out.bel⟩
    · have e1 : ((n1 : Int) == x.s) = false := beq_eq_false_iff_ne.2 h1
      have hen := fun W => enc_none x gen a b c A B n1 c1 n2 c2 W (.inr (.inl h1))
      have HEN := Lib.hid hen
      clear h1 h0 hck hen
      go_enter Try.func3, Try.ntmps3
      go_wp2_with (first
        | (go_at_call 7; (with_reducible refine (HAW.out _).mono ?_); rintro e w1 ⟨rfl, hb1⟩; have HD1 := Lib.hid (HD.out.later hb1); clear hb1; obtain ⟨i0, i1, i2, i3, i4⟩ := HD1.out.im.cells5; obtain ⟨s0, s1, s2, s3, s4, s5⟩ := HD1.out.sh.cells6)
        | (go_at_call 8; (with_reducible refine (HCK.out _).mono ?_); rintro e w2 ⟨rfl, hb2⟩; have HD2 := Lib.hid (HD1.out.later hb2); clear hb2; obtain ⟨p0, p1, p2, p3, p4⟩ := HD2.out.im.cells5; obtain ⟨q0, q1, q2, q3, q4, q5⟩ := HD2.out.sh.cells6)
        | (go_at_call 9; (with_reducible refine (HEN.out _).mono ?_); rintro e w3 ⟨rfl, hb3⟩; have HD3 := Lib.hid (HD2.out.later hb3); clear hb3))
      go_ret
      exact ⟨rfl, HD3.out.bel⟩
  · have hck : chk x = 1 := by unfold chk at h0 ⊢; split <;> simp_all
    have hc2 := HCK.out
    rw [hck] at hc2
    have HCK := Lib.hid hc2
    have hen := fun W => enc_none x gen a b c A B n1 c1 n2 c2 W (.inl h0)
    have HEN := Lib.hid hen
    have hde := fun W => dec_arg x gen L n3 c3 W h0
    have HDE := Lib.hid hde
    clear hck hc2 hen hde h0
    go_enter Try.func3, Try.ntmps3
    go_wp2_with (first
      | (go_at_call 7; (with_reducible refine (HAW.out _).mono ?_); rintro e w1 ⟨rfl, hb1⟩; have HD1 := Lib.hid (HD.out.later hb1); clear hb1; obtain ⟨i0, i1, i2, i3, i4⟩ := HD1.out.im.cells5; obtain ⟨s0, s1, s2, s3, s4, s5⟩ := HD1.out.sh.cells6)
      | (go_at_call 8; (with_reducible refine (HCK.out _).mono ?_); rintro e w2 ⟨rfl, hb2⟩; have HD2 := Lib.hid (HD1.out.later hb2); clear hb2; obtain ⟨p0, p1, p2, p3, p4⟩ := HD2.out.im.cells5; obtain ⟨q0, q1, q2, q3, q4, q5⟩ := HD2.out.sh.cells6)
      | (go_at_call 10; (with_reducible refine (HDE.out _).mono ?_); rintro e w3 ⟨⟨A5, c5, B5, d5, rfl, -, -, -, -⟩, hb3⟩; have HD3 := Lib.hid (HD2.out.later hb3); clear hb3; obtain ⟨u0, u1, u2, u3, u4⟩ := HD3.out.im.cells5; obtain ⟨v0, v1, v2, v3, v4, v5⟩ := HD3.out.sh.cells6; have hl3 := HD3.out.im.lt; have hl4 := HD3.out.sh.lt)
      | (go_at_call 9; (with_reducible refine (HEN.out _).mono ?_); rintro e w4 ⟨rfl, hb4⟩; have HD4 := Lib.hid ((HD3.out.later ((Below.refl _ _).alloc (Nat.le_refl _) _)).later hb4); clear hb4))
    go_ret
    exact ⟨rfl, HD4.out.bel⟩
theorem pageNone_true {H : Type} {enc : TypeId × Value → H} {r r' : Reach} {b0 b1 base base' : Nat} {spare spare' : Nat → Bool} {held held' : Bool} (m b s t n l gen : Int) (v : Value) (d : DataW H) (ps : List MemPlace) (v' : Value) (d' : DataW H) (ps' : List MemPlace) (w : World)
    (_ : (Lit.int .i64 m).wf = true) (_ : (Lit.int .i64 b).wf = true) (_ : (Lit.int .i64 s).wf = true) (_ : (Lit.int .i64 t).wf = true) (_ : (Lit.int .i64 n).wf = true) (_ : (Lit.int .i64 l).wf = true) (_ : (Lit.int .u64 gen).wf = true)
    (k : DataW.Trod enc Try.prog w base spare held 28 v d ps) (o : Value.okWide Try.prog w r b0 28 v) (_ : DataW.Trod enc Try.prog w base' spare' held' 29 v' d' ps') (o' : Value.okWide Try.prog w r' b1 29 v') {Z : Prop} (_ : Z) :
    Calls Try.prog 3 #[.agg #[.int .i64 m, .int .i64 b, .int .i64 s, .int .i64 t, .int .i64 n, .int .i64 l], .int .u64 gen, v, v'] w fun e w' => e = .returned (.bool true) ∧ Below w.heap.size w w' := by
  obtain ⟨a, b2, c, A, n1, c1, B, n2, c2, rfl⟩ := image_of k o
  obtain ⟨L, n3, c3, rfl⟩ := okWide_slice Try.underlying29 o'
  exact none_walk ⟨m, b, s, t, n, l⟩ gen a b2 c A B L n1 c1 n2 c2 n3 c3 w
end Go.Proofs.Ytcpngnnnggpfpaa
