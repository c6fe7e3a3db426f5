/- The walk of SuperApart. No further condition. -/
import Derived.Test.YtcgodkahkgpojaaSq
namespace Go.Proofs.Ytcgodkahkgpojaa
open Go.RowKit
attribute [local go_sem ↓] Go.wp_at_zero Go.wp_at_succ

theorem bcell_ {W W1 : World} (hb : Below W.heap.size W W1) : (∀ b o, b < W.heap.size → W1.cell? ⟨b, o, none⟩ = W.cell? ⟨b, o, none⟩) ∧ (∀ b o, b < W.heap.size → W1.frozen? ⟨b, o, none⟩ = W.frozen? ⟨b, o, none⟩) :=
  ⟨fun b o h => hb.cell (p := ⟨b, o, none⟩) h, fun b o h => hb.frozen (p := ⟨b, o, none⟩) h⟩
/-- The labels in their boxes. -/
structure Tw (w W : World) (p q : Value) (cs ds : Array Value) : Prop where
  it : ∃ X Y, p = .pointer (some ⟨X, 0, none⟩) ∧ q = .pointer (some ⟨Y, 0, none⟩) ∧ Blk W X 29 cs ∧ Blk W Y 29 ds
  bel : Below w.heap.size w W
/-- Block g is a label's. -/
def Has7 (w : World) (g : Nat) : Prop := ∃ a b c d e f k, Blk w g 29 #[a, b, c, d, e, f, k]
section
variable {w w' : World} {g h : Nat} {t : TypeId} {cs : Array Value} {a b c d e f k : Value}
theorem Has7.new (hs : w.heap.size = g) : Has7 (w.alloc (.cells #[a, b, c, d, e, f, k] 29)) g := ⟨a, b, c, d, e, f, k, Blk.new_ _ _ _ hs⟩
theorem Has7.alloc (q : Has7 w g) (o : Obj) : Has7 (w.alloc o) g := by
  obtain ⟨a, b, c, d, e, f, k, q⟩ := q
  exact ⟨a, b, c, d, e, f, k, q.alloc o⟩
theorem Has7.drew (q : Has7 w g) : Has7 w.drew g := q
theorem Has7.later (q : Has7 w g) (hb : Below w.heap.size w w') : Has7 w' g := by
  obtain ⟨a, b, c, d, e, f, k, q⟩ := q
  exact ⟨a, b, c, d, e, f, k, q.later hb⟩
theorem Blk.far7 (q : Blk w g t cs) (hne : g ≠ h) : Blk (((((((w.setCell ⟨h, 0, none⟩ a).setCell ⟨h, 1, none⟩ b).setCell ⟨h, 2, none⟩ c).setCell ⟨h, 3, none⟩ d).setCell ⟨h, 4, none⟩ e).setCell ⟨h, 5, none⟩ f).setCell ⟨h, 6, none⟩ k) g t cs :=
  ((((((q.far (p := ⟨h, 0, none⟩) hne a).far (p := ⟨h, 1, none⟩) hne b).far (p := ⟨h, 2, none⟩) hne c).far (p := ⟨h, 3, none⟩) hne d).far (p := ⟨h, 4, none⟩) hne e).far (p := ⟨h, 5, none⟩) hne f).far (p := ⟨h, 6, none⟩) hne k
theorem Blk.set7e (q : Has7 w g) : Blk (((((((w.setCell ⟨g, 0, none⟩ a).setCell ⟨g, 1, none⟩ b).setCell ⟨g, 2, none⟩ c).setCell ⟨g, 3, none⟩ d).setCell ⟨g, 4, none⟩ e).setCell ⟨g, 5, none⟩ f).setCell ⟨g, 6, none⟩ k) g 29 #[a, b, c, d, e, f, k] := by
  obtain ⟨_, _, _, _, _, _, _, q⟩ := q
  exact (set7 q a b c d e f k).1
theorem Has7.set (q : Has7 w g) : Has7 (((((((w.setCell ⟨h, 0, none⟩ a).setCell ⟨h, 1, none⟩ b).setCell ⟨h, 2, none⟩ c).setCell ⟨h, 3, none⟩ d).setCell ⟨h, 4, none⟩ e).setCell ⟨h, 5, none⟩ f).setCell ⟨h, 6, none⟩ k) g := by
  by_cases e : g = h
  · subst e
    exact ⟨_, _, _, _, _, _, _, Blk.set7e q⟩
  · obtain ⟨_, _, _, _, _, _, _, q⟩ := q
    exact ⟨_, _, _, _, _, _, _, q.far7 e⟩
end
theorem lb_dec (x y : Sh) (k l : Int) (W : World) : (binOp .eql 29 (.agg #[.int .i64 x.m, .int .i64 x.b, .int .i64 x.s, .int .i64 x.t, .int .i64 x.n, .int .i64 x.l, .int .i64 k]) (.agg #[.int .i64 y.m, .int .i64 y.b, .int .i64 y.s, .int .i64 y.t, .int .i64 y.n, .int .i64 y.l, .int .i64 l])).run Try.prog W = .ok (.bool (decide (x = y ∧ k = l))) W := by
  obtain ⟨m, b, s, t, n, z⟩ := x
  obtain ⟨m', b', s', t', n', z'⟩ := y
  go_simp
  by_cases h1 : m = m' <;> by_cases h2 : b = b' <;> by_cases h3 : s = s' <;> by_cases h4 : t = t' <;> by_cases h5 : n = n' <;> by_cases h6 : z = z' <;> by_cases h7 : k = l <;> simp [h1, h2, h3, h4, h5, h6, h7]
theorem sect_inj {x y : Sh} {k l : Int} (h : LbOk x k) (h' : LbOk y l) : sect x k = sect y l ↔ x = y ∧ k = l := by
  constructor
  · intro e
    obtain ⟨-, p1, p2, p3, p4, p5, p6, p7⟩ := sect_nf h
    obtain ⟨-, q1, q2, q3, q4, q5, q6, q7⟩ := sect_nf h'
    rw [e] at p1 p2 p3 p4 p5 p6 p7
    obtain ⟨-, u1, u2, u3, u4, u5, u6, u7⟩ := h
    obtain ⟨-, v1, v2, v3, v4, v5, v6, v7⟩ := h'
    have e1 : x.m = y.m := by clear p1 p3 p4 p5 p6 p7 q1 q3 q4 q5 q6 q7; omega
    have e2 : x.b = y.b := by clear p1 p2 p4 p5 p6 p7 q1 q2 q4 q5 q6 q7; omega
    have e3 : x.s = y.s := by clear p1 p2 p3 p5 p6 p7 q1 q2 q3 q5 q6 q7; omega
    have e4 : x.t = y.t := by clear p1 p2 p3 p4 p6 p7 q1 q2 q3 q4 q6 q7; omega
    have e5 : x.n = y.n := by clear p1 p2 p3 p4 p5 p7 q1 q2 q3 q4 q5 q7; omega
    have e6 : x.l = y.l := by clear p1 p2 p3 p4 p5 p6 q1 q2 q3 q4 q5 q6; omega
    have e7 : k = l := by clear p2 p3 p4 p5 p6 p7 q2 q3 q4 q5 q6 q7; omega
    clear p1 p2 p3 p4 p5 p6 p7 q1 q2 q3 q4 q5 q6 q7 u1 u2 u3 u4 u5 u6 u7 v1 v2 v3 v4 v5 v6 v7 e
    obtain ⟨m, b, s, t, n, z⟩ := x
    obtain ⟨m', b', s', t', n', z'⟩ := y
    simp only at e1 e2 e3 e4 e5 e6
    rw [e1, e2, e3, e4, e5, e6]
    exact ⟨rfl, e7⟩
  · rintro ⟨rfl, rfl⟩
    rfl
set_option maxRecDepth 100000 in
set_option maxHeartbeats 12800000 in
theorem superApart_true (a b c d e f a' b' c' d' e' f' k l : Int) (w : World) (h0 : (Lit.int .u8 a).wf = true) (h1 : (Lit.int .u8 b).wf = true) (h2 : (Lit.int .u8 c).wf = true) (h3 : (Lit.int .u8 d).wf = true) (h4 : (Lit.int .u8 e).wf = true) (h5 : (Lit.int .u8 f).wf = true) (g0 : (Lit.int .u8 a').wf = true) (g1 : (Lit.int .u8 b').wf = true) (g2 : (Lit.int .u8 c').wf = true) (g3 : (Lit.int .u8 d').wf = true) (g4 : (Lit.int .u8 e').wf = true) (g5 : (Lit.int .u8 f').wf = true) (hkk : (Lit.int .u8 k).wf = true) (hll : (Lit.int .u8 l).wf = true) :
    Calls Try.prog 3 #[.agg #[.int .u8 a, .int .u8 b, .int .u8 c, .int .u8 d, .int .u8 e, .int .u8 f], .agg #[.int .u8 a', .int .u8 b', .int .u8 c', .int .u8 d', .int .u8 e', .int .u8 f'], .int .u8 k, .int .u8 l] w fun e w' => e = .returned (.bool true) ∧ Below w.heap.size w w' := by
  have h8 := ok8_of h0 h1 h2 h3 h4 h5
  have h8' := ok8_of g0 g1 g2 g3 g4 g5
  have hk := u8_in_ hkk
  have hl := u8_in_ hll
  obtain ⟨x, hx⟩ : ∃ x, x = shOf a b c d e f := ⟨_, rfl⟩
  obtain ⟨y, hy⟩ : ∃ y, y = shOf a' b' c' d' e' f' := ⟨_, rfl⟩
  have hok : LbOk x k := by rw [hx]; exact shOf_ok h8 hk
  have hok' : LbOk y l := by rw [hy]; exact shOf_ok h8' hl
  have H8 := Lib.hid h8
  have H8' := Lib.hid h8'
  have HX := Lib.hid hx
  have HY := Lib.hid hy
  have HOK := Lib.hid hok
  have HOK' := Lib.hid hok'
  have wk : IntKind.i64.wrap k = k := IntWalk.i64_in _ (by omega)
  have wl : IntKind.i64.wrap l = l := IntWalk.i64_in _ (by omega)
  have HAW := Lib.hid (awake_ok ((w.alloc (.cells #[.int .u8 a, .int .u8 b, .int .u8 c, .int .u8 d, .int .u8 e, .int .u8 f] 23)).alloc (.cells #[.int .u8 a', .int .u8 b', .int .u8 c', .int .u8 d', .int .u8 e', .int .u8 f'] 23)))
  have HB0 := Lib.hid (((Below.refl w.heap.size w).alloc (Nat.le_refl _) (.cells #[.int .u8 a, .int .u8 b, .int .u8 c, .int .u8 d, .int .u8 e, .int .u8 f] 23)).alloc (by simp) (.cells #[.int .u8 a', .int .u8 b', .int .u8 c', .int .u8 d', .int .u8 e', .int .u8 f'] 23))
  have HS0 := Lib.hid ((Blk.new w 23 #[.int .u8 a, .int .u8 b, .int .u8 c, .int .u8 d, .int .u8 e, .int .u8 f]).alloc (.cells #[.int .u8 a', .int .u8 b', .int .u8 c', .int .u8 d', .int .u8 e', .int .u8 f'] 23))
  have HT0 := Lib.hid (Blk.new_ (w.alloc (.cells #[.int .u8 a, .int .u8 b, .int .u8 c, .int .u8 d, .int .u8 e, .int .u8 f] 23)) 23 #[.int .u8 a', .int .u8 b', .int .u8 c', .int .u8 d', .int .u8 e', .int .u8 f'] (n := w.heap.size + 1) (by simp))
  clear h8 h8' hk hl hx hy hok hok' h0 h1 h2 h3 h4 h5 g0 g1 g2 g3 g4 g5 hkk hll
  go_enter Try.func3, Try.ntmps3
  go_upto_region 3 with (first | (go_at_call 7; (with_reducible refine HAW.out.mono ?_); rintro e w1 ⟨rfl, hb1⟩; have HB1 := Lib.hid (HB0.out.trans (hb1.mono HB0.out.size)); have HS1 := Lib.hid (HS0.out.later hb1); have HT1 := Lib.hid (HT0.out.later hb1); clear hb1) | fail "no")
  obtain ⟨p0, p1, p2, p3, p4, p5⟩ := HS1.out.cells6
  obtain ⟨q0, q1, q2, q3, q4, q5⟩ := HT1.out.cells6
  have hsz1 := HS1.out.lt
  have hsz2 := HT1.out.lt
  go_cut [9, 10] (fun p q wx => Tw w wx p q #[.int .i64 x.m, .int .i64 x.b, .int .i64 x.s, .int .i64 x.t, .int .i64 x.n, .int .i64 x.l, .int .i64 k] #[.int .i64 y.m, .int .i64 y.b, .int .i64 y.s, .int .i64 y.t, .int .i64 y.n, .int .i64 y.l, .int .i64 l])
  case first =>
    go_region_held3 (fun w' => ∀ b o, b < w1.heap.size → w'.cell? ⟨b, o, none⟩ = w1.cell? ⟨b, o, none⟩)
      (exact (bcell_ (by (repeat' (first | (with_reducible exact Below.refl _ _) | (with_reducible exact Nat.le_refl _) | (with_reducible exact HBb.out) | (with_reducible exact HBa.out) | (with_reducible exact HBb.out.size) | (with_reducible exact HBa.out.size) | (with_reducible refine Below.drew ?_) | (with_reducible refine Below.alloc ?_ ?_ _) | (with_reducible refine Below.setCell ?_ ?_ _) | (simp; done) | (simp; omega) | (have h9 := HBb.out.size; have h8 := HBa.out.size; simp; omega) | (have h9 := HBa.out.size; simp; omega))))).1)
      (first
        | (go_at_call 8; (with_reducible refine (shapeL a b c d e f x HX.out H8.out _).mono ?_); rintro e w2 ⟨rfl, hb2⟩; have HBa : Hid (Below w1.heap.size w1 w2) := Lib.hid (Below.trans (by (repeat' (first | (with_reducible exact Below.refl _ _) | (with_reducible exact Nat.le_refl _) | (with_reducible refine Below.drew ?_) | (with_reducible refine Below.alloc ?_ ?_ _) | (with_reducible refine Below.setCell ?_ ?_ _) | (simp; done) | (simp; omega)))) (hb2.mono (by first | exact Nat.le_refl _ | (simp; done) | (simp; omega)))); have HWa := Lib.hid hb2; obtain ⟨hc2, hf2⟩ := bcell_ hb2; (try have hz21 : w1.heap.size < w2.heap.size := by have := HWa.out.size; (try simp at this); omega); (try have hz22 : w1.heap.size + 1 < w2.heap.size := by have := HWa.out.size; (try simp at this); omega); have hz20 := HBa.out.size; clear hb2)
        | (go_at_call 8; (with_reducible refine (shapeL a' b' c' d' e' f' y HY.out H8'.out _).mono ?_); rintro e w3 ⟨rfl, hb3⟩; have HBb : Hid (Below w1.heap.size w1 w3) := Lib.hid (Below.trans (by (repeat' (first | (with_reducible exact Below.refl _ _) | (with_reducible exact Nat.le_refl _) | (with_reducible exact HBa.out) | (with_reducible exact HBa.out.size) | (with_reducible refine Below.drew ?_) | (with_reducible refine Below.alloc ?_ ?_ _) | (with_reducible refine Below.setCell ?_ ?_ _) | (simp; done) | (simp; omega) | (have h9 := HBa.out.size; simp; omega)))) (hb3.mono (by first | exact Nat.le_refl _ | (simp; done) | (have := HBa.out.size; simp; omega) | (have := HBa.out.size; omega)))); have HWb := Lib.hid hb3; obtain ⟨hc3, hf3⟩ := bcell_ hb3; (try have hz31 : w1.heap.size < w3.heap.size := by have := HWb.out.size; (try simp at this); omega); (try have hz32 : w1.heap.size + 1 < w3.heap.size := by have := HWb.out.size; (try simp at this); omega); (try have hz33 : w2.heap.size < w3.heap.size := by have := HWb.out.size; (try simp at this); omega); (try have hz34 : w2.heap.size + 1 < w3.heap.size := by have := HWb.out.size; (try simp at this); omega); have hz30 := HBb.out.size; clear hb3)
        | fail "no arm")
    all_goals
      go_wp2_with fail
      go_meet
      refine ⟨⟨_, _, rfl, rfl, ?_, ?_⟩, HB1.out.trans (Below.mono (B := w1.heap.size) ?_ HB1.out.size)⟩
      all_goals (clear hc2 hf2 hc3 hf3 p0 p1 p2 p3 p4 p5 q0 q1 q2 q3 q4 q5)
      all_goals (repeat' (first
        | (with_reducible exact HBb.out) | (with_reducible exact Nat.le_refl _)
        | ((with_reducible refine Blk.new_ _ _ _ ?_) <;> (simp <;> omega)) | ((with_reducible refine Has7.new ?_) <;> (simp <;> omega))
        | (with_reducible refine Blk.set7e ?_) | (with_reducible refine Blk.far7 ?_ ?_) | (with_reducible refine Has7.set ?_) | (with_reducible refine Below.setCell ?_ ?_ _)
        | (with_reducible refine Blk.alloc ?_ _) | (with_reducible refine Has7.alloc ?_ _) | (with_reducible refine Below.alloc ?_ ?_ _)
        | (with_reducible refine Has7.drew ?_) | (with_reducible refine Blk.drew ?_)
        | (with_reducible refine Blk.later ?_ HWb.out) | (with_reducible refine Has7.later ?_ HWb.out) | (with_reducible refine Blk.later ?_ HWa.out) | (with_reducible refine Has7.later ?_ HWa.out)
        | (with_reducible exact HBa.out.size) | (with_reducible exact HBb.out.size) | omega | (have h9 := HBa.out.size; have h8 := HBb.out.size; simp; done) | (have h9 := HBa.out.size; have h8 := HBb.out.size; simp; omega)))
  case rest =>
    obtain ⟨⟨X, Y, rfl, rfl, hbx, hby⟩, hbel⟩ := hcut
    obtain ⟨r, hr⟩ : ∃ r, decide (x = y ∧ k = l) = r := ⟨_, rfl⟩
    have hr2 : decide (sect x k = sect y l) = r := by
      rw [← hr]
      exact decide_eq_decide.2 (sect_inj HOK.out HOK'.out)
    have hq := fun W => lb_dec x y k l W
    rw [hr] at hq
    have HR2 := Lib.hid hr2
    obtain ⟨x0, x1, x2, x3, x4, x5, x6⟩ := hbx.cells7
    obtain ⟨y0, y1, y2, y3, y4, y5, y6⟩ := hby.cells7
    have hxl := hbx.lt
    have hyl := hby.lt
    have HBEL := Lib.hid hbel
    obtain ⟨wo, hwo⟩ : ∃ wo, wo = wc := ⟨wc, rfl⟩
    subst hwo
    clear hr hr2 hbel hbx hby p0 p1 p2 p3 p4 p5 q0 q1 q2 q3 q4 q5 hsz1 hsz2 HS1 HT1 HS0 HT0 HB0 HAW HB1
    go_wp2
    rcases r with _ | _
    all_goals
      go_region_held3 (fun w' => ∀ b o, b < wo.heap.size → w'.cell? ⟨b, o, none⟩ = wo.cell? ⟨b, o, none⟩)
        (exact (bcell_ (by (first | (with_reducible exact HE3.out) | (with_reducible exact HE2.out) | (with_reducible exact HE1.out) | (with_reducible exact (Below.refl _ _).drew)))).1)
        (first
          | (go_at_call 10; (with_reducible refine (encodeL x k HOK.out _).mono ?_); rintro e wa ⟨Aa, ca, rfl, hra, -, hba⟩; have HE1 : Hid (Below wo.heap.size wo wa) := Lib.hid ((Below.refl _ _).drew.trans hba); have HRa := Lib.hid hra; clear hba hra)
          | (go_at_call 10; (with_reducible refine (encodeL y l HOK'.out _).mono ?_); rintro e wb ⟨Ab, cb, rfl, hrb, -, hbb⟩; have HE2 := Lib.hid (HE1.out.trans (hbb.mono HE1.out.size)); have HRb := Lib.hid hrb; have HRa2 := Lib.hid (HRa.out.later hbb); clear hbb hrb)
          | (go_at_call 9; (with_reducible refine (equalb_ok Aa Ab ca cb (sect x k) (sect y l) _ HRa2.out HRb.out (by rw [sect_len HOK.out]; have := HOK.out.b; omega)).mono ?_); rw [HR2.out]; rintro e wd ⟨rfl, nd, hwd⟩; have HE3 : Hid (Below wo.heap.size wo wd) := Lib.hid (hwd ▸ below_drewN HE2.out nd); clear hwd)
          | fail "no arm")
      go_wp2
      go_ret
      exact ⟨rfl, HBEL.out.trans (HE3.out.mono HBEL.out.size)⟩
end Go.Proofs.Ytcgodkahkgpojaa
