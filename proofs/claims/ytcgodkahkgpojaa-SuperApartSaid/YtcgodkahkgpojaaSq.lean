/- The walk of SuperEncodes. No further condition. -/
import Derived.Test.YtcgodkahkgpojaaSp
namespace Go.Proofs.Ytcgodkahkgpojaa
open Go.RowKit
attribute [local go_sem ↓] Go.wp_at_zero Go.wp_at_succ

theorem Blk.cells6 {w : World} {g : Nat} {t : TypeId} {a b c d e f : Value} (h : Blk w g t #[a, b, c, d, e, f]) : w.cell? ⟨g, 0, none⟩ = some a ∧ w.cell? ⟨g, 1, none⟩ = some b ∧ w.cell? ⟨g, 2, none⟩ = some c ∧ w.cell? ⟨g, 3, none⟩ = some d ∧ w.cell? ⟨g, 4, none⟩ = some e ∧ w.cell? ⟨g, 5, none⟩ = some f :=
  ⟨h.at_ rfl, h.at_ rfl, h.at_ rfl, h.at_ rfl, h.at_ rfl, h.at_ rfl⟩
theorem ok8_of {a b c d e f : Int} (h0 : (Lit.int .u8 a).wf = true) (h1 : (Lit.int .u8 b).wf = true) (h2 : (Lit.int .u8 c).wf = true) (h3 : (Lit.int .u8 d).wf = true) (h4 : (Lit.int .u8 e).wf = true) (h5 : (Lit.int .u8 f).wf = true) : Ok8 a b c d e f :=
  ⟨u8_in_ h0, u8_in_ h1, u8_in_ h2, u8_in_ h3, u8_in_ h4, u8_in_ h5⟩
set_option maxRecDepth 100000 in
set_option maxHeartbeats 6400000 in
theorem superEncodes_true (a b c d e f k : Int) (w : World) (h0 : (Lit.int .u8 a).wf = true) (h1 : (Lit.int .u8 b).wf = true) (h2 : (Lit.int .u8 c).wf = true) (h3 : (Lit.int .u8 d).wf = true) (h4 : (Lit.int .u8 e).wf = true) (h5 : (Lit.int .u8 f).wf = true) (h6 : (Lit.int .u8 k).wf = true) :
    Calls Try.prog 4 #[.agg #[.int .u8 a, .int .u8 b, .int .u8 c, .int .u8 d, .int .u8 e, .int .u8 f], .int .u8 k] w fun e w' => e = .returned (.bool true) ∧ Below w.heap.size w w' := by
  have h8 := ok8_of h0 h1 h2 h3 h4 h5
  have hk := u8_in_ h6
  obtain ⟨x, hx⟩ : ∃ x, x = shOf a b c d e f := ⟨_, rfl⟩
  have hok : LbOk x k := by rw [hx]; exact shOf_ok h8 hk
  have H8 := Lib.hid h8
  have HX := Lib.hid hx
  have HOK := Lib.hid hok
  have HAW := Lib.hid (awake_ok (w.alloc (.cells #[.int .u8 a, .int .u8 b, .int .u8 c, .int .u8 d, .int .u8 e, .int .u8 f] 23)))
  have HB0 := Lib.hid ((Below.refl w.heap.size w).alloc (Nat.le_refl _) (.cells #[.int .u8 a, .int .u8 b, .int .u8 c, .int .u8 d, .int .u8 e, .int .u8 f] 23))
  have HS0 := Lib.hid (Blk.new w 23 #[.int .u8 a, .int .u8 b, .int .u8 c, .int .u8 d, .int .u8 e, .int .u8 f])
  have wk : IntKind.i64.wrap k = k := IntWalk.i64_in _ (by omega)
  have hq := fun W => lb_eql x.m x.b x.s x.t x.n x.l k W
  have hz := fun W => lb_eql 0 0 0 0 0 0 0 W
  clear h8 hx hok h0 h1 h2 h3 h4 h5 h6
  by_cases hlt : k < x.m
  · have d1 : decide (x.m ≤ k) = false := by simp; omega
    have HLT := Lib.hid hlt
    clear hlt
    go_enter Try.func4, Try.ntmps4
    go_wp2_with (first
      | (go_at_call 7; (with_reducible refine HAW.out.mono ?_); rintro e w1 ⟨rfl, hb1⟩; have HB1 := Lib.hid (HB0.out.trans (hb1.mono HB0.out.size)); obtain ⟨p0, p1, p2, p3, p4, p5⟩ := (HS0.out.later hb1).cells6; clear hb1)
      | (go_at_call 8; (with_reducible refine (shapeL a b c d e f x HX.out H8.out _).mono ?_); rintro e w2 ⟨rfl, hb2⟩; have HB2 := Lib.hid (HB1.out.trans (hb2.mono HB1.out.size)); have HB3 : Hid (Below w.heap.size w (w2.alloc (.cells #[.int .i64 x.m, .int .i64 x.b, .int .i64 x.s, .int .i64 x.t, .int .i64 x.n, .int .i64 x.l, .int .i64 k] 29))) := Lib.hid (HB2.out.alloc HB2.out.size _); have HL2 := Lib.hid (Blk.new w2 29 #[.int .i64 x.m, .int .i64 x.b, .int .i64 x.s, .int .i64 x.t, .int .i64 x.n, .int .i64 x.l, .int .i64 k]); clear hb2)
      | (go_at_call 10; (with_reducible refine (encodeL x k HOK.out _).mono ?_); rintro e w3 ⟨A3, c3, rfl, hr3, hc3, hb3⟩; have HB4 := Lib.hid (HB3.out.trans (hb3.mono HB3.out.size)); have HL3 := Lib.hid (HL2.out.later hb3); have HR3 := Lib.hid hr3; have HC3 := Lib.hid hc3; clear hb3 hr3 hc3)
      | (go_at_call 11; (with_reducible refine (decodeL x k HOK.out A3 c3 _ HR3.out HC3.out HLT.out).mono ?_); rintro e w4 ⟨rfl, hb4⟩; have hba := hb4.alloc hb4.size (.cells #[.int .i64 x.m, .int .i64 x.b, .int .i64 x.s, .int .i64 x.t, .int .i64 x.n, .int .i64 x.l, .int .i64 k] 29); have HB5 := Lib.hid (HB4.out.trans (hba.mono HB4.out.size)); have HL4 := Lib.hid (HL3.out.later hba); have HR4 := Lib.hid (HR3.out.later hba); have HZ4 := Lib.hid (Blk.new w4 29 #[.int .i64 x.m, .int .i64 x.b, .int .i64 x.s, .int .i64 x.t, .int .i64 x.n, .int .i64 x.l, .int .i64 k]); obtain ⟨q0, q1, q2, q3, q4, q5, q6⟩ := HL4.out.cells7; clear hb4 hba)
      | (go_at_call 12; (with_reducible refine (tellsL x k HOK.out _).mono ?_); rintro e w5 ⟨A5, c5, rfl, ho5, hc5, hb5⟩; have HB6 := Lib.hid (HB5.out.trans (hb5.mono HB5.out.size)); have HL5 := Lib.hid (HL4.out.later hb5); have HZ5 := Lib.hid (HZ4.out.later hb5); have HR5 := Lib.hid (HR4.out.later hb5); have HT5 := Lib.hid (Rd.of_own ho5); clear hb5 ho5 hc5)
      | (go_at_call 9; (with_reducible refine (equalb_ok A3 A5 c3 c5 (sect x k) (sect x k) _ HR5.out HT5.out (by rw [sect_len HOK.out]; have := HOK.out.b; omega)).mono ?_); rw [decide_eq_true rfl]; rintro e w6 ⟨rfl, n6, hw6⟩; have hb6 : Below w5.heap.size w5 w6 := hw6 ▸ below_drewN (Below.refl _ _) n6; have HB7 := Lib.hid (HB6.out.trans (hb6.mono HB6.out.size)); obtain ⟨x0, x1, x2, x3, x4, x5, x6⟩ := (HL5.out.later hb6).cells7; obtain ⟨y0, y1, y2, y3, y4, y5, y6⟩ := (HZ5.out.later hb6).cells7; clear hb6 hw6)
      | fail "no")
    go_ret
    exact ⟨rfl, HB7.out⟩
  · have d1 : decide (x.m ≤ k) = true := by simp; omega
    have HLT := Lib.hid (Int.not_lt.1 hlt)
    clear hlt
    go_enter Try.func4, Try.ntmps4
    go_wp2_with (first
      | (go_at_call 7; (with_reducible refine HAW.out.mono ?_); rintro e w1 ⟨rfl, hb1⟩; have HB1 := Lib.hid (HB0.out.trans (hb1.mono HB0.out.size)); obtain ⟨p0, p1, p2, p3, p4, p5⟩ := (HS0.out.later hb1).cells6; clear hb1)
      | (go_at_call 8; (with_reducible refine (shapeL a b c d e f x HX.out H8.out _).mono ?_); rintro e w2 ⟨rfl, hb2⟩; have HB2 := Lib.hid (HB1.out.trans (hb2.mono HB1.out.size)); have HB3 : Hid (Below w.heap.size w (w2.alloc (.cells #[.int .i64 x.m, .int .i64 x.b, .int .i64 x.s, .int .i64 x.t, .int .i64 x.n, .int .i64 x.l, .int .i64 k] 29))) := Lib.hid (HB2.out.alloc HB2.out.size _); have HL2 := Lib.hid (Blk.new w2 29 #[.int .i64 x.m, .int .i64 x.b, .int .i64 x.s, .int .i64 x.t, .int .i64 x.n, .int .i64 x.l, .int .i64 k]); clear hb2)
      | (go_at_call 10; (with_reducible refine (encodeL x k HOK.out _).mono ?_); rintro e w3 ⟨A3, c3, rfl, hr3, hc3, hb3⟩; have HB4 := Lib.hid (HB3.out.trans (hb3.mono HB3.out.size)); have HL3 := Lib.hid (HL2.out.later hb3); have HR3 := Lib.hid hr3; have HC3 := Lib.hid hc3; clear hb3 hr3 hc3)
      | (go_at_call 11; (with_reducible refine (decodeN x k HOK.out A3 c3 _ HR3.out HC3.out HLT.out).mono ?_); rintro e w4 ⟨rfl, hb4⟩; have hba := hb4.alloc hb4.size (.cells #[.int .i64 0, .int .i64 0, .int .i64 0, .int .i64 0, .int .i64 0, .int .i64 0, .int .i64 0] 29); have HB5 := Lib.hid (HB4.out.trans (hba.mono HB4.out.size)); have HL4 := Lib.hid (HL3.out.later hba); have HR4 := Lib.hid (HR3.out.later hba); have HZ4 := Lib.hid (Blk.new w4 29 #[.int .i64 0, .int .i64 0, .int .i64 0, .int .i64 0, .int .i64 0, .int .i64 0, .int .i64 0]); obtain ⟨q0, q1, q2, q3, q4, q5, q6⟩ := HL4.out.cells7; clear hb4 hba)
      | (go_at_call 12; (with_reducible refine (tellsL x k HOK.out _).mono ?_); rintro e w5 ⟨A5, c5, rfl, ho5, hc5, hb5⟩; have HB6 := Lib.hid (HB5.out.trans (hb5.mono HB5.out.size)); have HL5 := Lib.hid (HL4.out.later hb5); have HZ5 := Lib.hid (HZ4.out.later hb5); have HR5 := Lib.hid (HR4.out.later hb5); have HT5 := Lib.hid (Rd.of_own ho5); clear hb5 ho5 hc5)
      | (go_at_call 9; (with_reducible refine (equalb_ok A3 A5 c3 c5 (sect x k) (sect x k) _ HR5.out HT5.out (by rw [sect_len HOK.out]; have := HOK.out.b; omega)).mono ?_); rw [decide_eq_true rfl]; rintro e w6 ⟨rfl, n6, hw6⟩; have hb6 : Below w5.heap.size w5 w6 := hw6 ▸ below_drewN (Below.refl _ _) n6; have HB7 := Lib.hid (HB6.out.trans (hb6.mono HB6.out.size)); obtain ⟨x0, x1, x2, x3, x4, x5, x6⟩ := (HL5.out.later hb6).cells7; obtain ⟨y0, y1, y2, y3, y4, y5, y6⟩ := (HZ5.out.later hb6).cells7; clear hb6 hw6)
      | fail "no")
    go_ret
    exact ⟨rfl, HB7.out⟩
end Go.Proofs.Ytcgodkahkgpojaa
