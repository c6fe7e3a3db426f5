/- The walk of GeomApart. No further condition. -/
import Derived.Test.YtidakgfblehipaaGa
namespace Go.Proofs.Ytidakgfblehipaa
open Go.RowKit Go.Maps
attribute [local go_sem ↓] Go.wp_at_zero Go.wp_at_succ
theorem grown_none {a b : World} (h : Below a.heap.size a b) : a.grownBy b none := ⟨h.os, h.tape, h.output, h.size, fun i hi _ => h.block i hi⟩
theorem below_then {a b c : World} (h : Below a.heap.size a b) (k : Below b.heap.size b c) : Below a.heap.size a c := h.trans (k.mono h.size)
set_option maxRecDepth 100000 in
set_option maxHeartbeats 12800000 in
theorem geomApart_true (a b c d e f : Int) (w : World) (ha : (Lit.int .u8 a).wf = true) (hb : (Lit.int .u8 b).wf = true) (hc : (Lit.int .u8 c).wf = true) (hd : (Lit.int .u8 d).wf = true) (he : (Lit.int .u8 e).wf = true) (hf : (Lit.int .u8 f).wf = true) :
    Calls Try.prog 9 #[.agg #[.int .u8 a, .int .u8 b, .int .u8 c, .int .u8 d, .int .u8 e, .int .u8 f]] w fun en w' => en = .returned (.bool true) ∧ Below w.heap.size w w' := by
  have h8 := ok8_of ha hb hc hd he hf
  obtain ⟨x, hx⟩ : ∃ x, x = shOf a b c d e f := ⟨_, rfl⟩
  obtain ⟨hm, hb1, hs, ht⟩ := shOf_m h8
  obtain ⟨-, hl1, -, hl2⟩ := shOf_nl h8
  rw [← hx] at hm hb1 hs ht hl1 hl2
  obtain ⟨P, A, S, hF⟩ := fa_of hm hb1 hs ht ⟨hl1, hl2⟩
  have hp := hF.p1
  have hA := hF.a1
  have hS := hF.s1
  have HF := Lib.hid hF
  have HX := Lib.hid hx
  have H8 := Lib.hid h8
  have HAW := Lib.hid (awake_ok (w.alloc (.cells #[.int .u8 a, .int .u8 b, .int .u8 c, .int .u8 d, .int .u8 e, .int .u8 f] 29)))
  have HB0 := Lib.hid ((Below.refl w.heap.size w).alloc (Nat.le_refl _) (.cells #[.int .u8 a, .int .u8 b, .int .u8 c, .int .u8 d, .int .u8 e, .int .u8 f] 29))
  have HS0 := Lib.hid (Blk.new w 29 #[.int .u8 a, .int .u8 b, .int .u8 c, .int .u8 d, .int .u8 e, .int .u8 f])
  have hmm := @run_makeMap_ Try.prog
  clear ha hb hc hd he hf h8 hx hm hb1 hs ht hl1 hl2 hF
  go_enter Try.func9, Try.ntmps9
  go_upto_region 4 with (first
    | (go_at_call 10; (with_reducible refine HAW.out.mono ?_); rintro en w1 ⟨rfl, hb1⟩; have HB1 := Lib.hid (HB0.out.trans (hb1.mono HB0.out.size)); obtain ⟨p0, p1, p2, p3, p4, p5⟩ := (HS0.out.later hb1).cells6; clear hb1)
    | (go_at_call 13; (with_reducible refine (shapeL a b c d e f x HX.out H8.out _).mono ?_); rintro en w2 ⟨rfl, hb2⟩; have HB2 := Lib.hid (HB1.out.trans (hb2.mono HB1.out.size)); have HB3 : Hid (Below w.heap.size w (w2.alloc (.cells #[.int .i64 x.m, .int .i64 x.b, .int .i64 x.s, .int .i64 x.t, .int .i64 x.n, .int .i64 x.l] 23))) := Lib.hid (HB2.out.alloc HB2.out.size _); have HL2 := Lib.hid (Blk.new w2 23 #[.int .i64 x.m, .int .i64 x.b, .int .i64 x.s, .int .i64 x.t, .int .i64 x.n, .int .i64 x.l]); clear hb2)
    | fail "no")
  obtain ⟨SB, hSB⟩ : ∃ SB, SB = w2.heap.size := ⟨_, rfl⟩
  rw [← hSB] at HL2 ⊢
  generalize w2.alloc (.cells #[.int .i64 x.m, .int .i64 x.b, .int .i64 x.s, .int .i64 x.t, .int .i64 x.n, .int .i64 x.l] 23) = W2 at HB3 HL2 ⊢
  have HI0 := Lib.hid (Iv.made W2 rfl)
  obtain ⟨b1, hb1⟩ : ∃ b1, b1 = W2.heap.size := ⟨_, rfl⟩
  clear hSB
  go_upto_region 5 with (first
    | (refine wpList_insertz rfl _ _ _ rfl MTii rfl HI0.out (by decide) rfl rfl (by decide) (by decide) ?_; intro w3 hi3 hg3; have HG : Hid (Gw w w3 SB b1 1 x) := Lib.hid (by subst hb1; exact ⟨(HL2.out.alloc _).grown hg3 (fun e => by injection e with e; have := HL2.out.lt; omega), Iv.step (n := 0) hi3, (HB3.out.alloc HB3.out.size _).grown hg3 (by have := HB3.out.size; simp; omega) (fun b e => by injection e with e; subst e; exact HB3.out.size), HB3.out.size⟩); clear hi3 hg3)
    | fail "no")
  rw [← hb1]
  clear hb1 HI0 HB3 HL2 HB2 HB1 HS0 HB0 HAW HX H8
  go_wp2
  go_loopw [18] (fun i wr => ∃ r q : Nat, r ≤ 2 ∧ i = .int .i64 r ∧ q = 1 + r * P ∧ Gw w wr SB b1 q x) (fun i _ => 2 - (intOf i).toNat)
  case atStart => exact ⟨0, 1, by omega, rfl, by omega, HG.out⟩
  case round =>
    clear HG
    obtain ⟨r, q, hr, rfl, hq, hg⟩ := hrel
    have hq5 : q ≤ 3000 := by have := Nat.mul_le_mul hr hp.2; omega
    by_cases hlt : r < 2
    · have g1 : (r : Int) < 2 := by omega
      have HPG := Lib.hid (HF.out.pages wr)
      have HG0 := Lib.hid hg
      obtain ⟨c0, c1, c2, c3, c4, c5⟩ := hg.sh.cells6
      have HPA := Lib.hid (fun (k z : Nat) (hk : k < P) (hz : z = q + k) (W : World) => HF.out.pageAt r k z (by omega) (by omega) (by rw [← hq]; exact hz) W)
      have HQ := Lib.hid (show q + P = 1 + (r + 1) * P by rw [hq, Nat.succ_mul, Nat.add_assoc])
      clear hq hg
      go_wp2_with (first
        | (go_at_call 21; (with_reducible refine HPG.out.mono ?_); rintro en w4 ⟨rfl, hb4⟩; have HG1 := Lib.hid (HG0.out.later hb4); clear hb4)
        | fail "no")
      clear c0 c1 c2 c3 c4 c5 HG0
      go_loopw [23] (fun i wi => ∃ k n : Nat, k ≤ P ∧ i = .int .i64 k ∧ n = q + k ∧ Gw w wi SB b1 n x) (fun i _ => P - (intOf i).toNat)
      case atStart => exact ⟨0, q, by omega, rfl, by omega, HG1.out⟩
      case round =>
        clear HG1
        rename World => wi
        obtain ⟨k, n, hk, rfl, hn, hg⟩ := hrel
        by_cases hkl : k < P
        · have g2 : (k : Int) < P := by omega
          have g3 : n ≤ 10000000 := by omega
          have HPB := Lib.hid (HPA.out k n hkl hn wi)
          obtain ⟨c0, c1, c2, c3, c4, c5⟩ := hg.sh.cells6
          have HG1 := Lib.hid hg
          have HN := Lib.hid hn
          clear hg hn
          go_upto_region 12 with (first
            | (go_at_call 26; (with_reducible refine HPB.out.mono ?_); rintro en w5 ⟨rfl, hb5⟩; have HG2 := Lib.hid (HG1.out.later hb5); have hlk := HG2.out.m1.look g3; clear hb5)
            | (refine wpList_up rfl _ _ _ rfl rfl HG2.out.m1 g3 rfl rfl ?_; intro w6 hi6 hg6; have HG3 := Lib.hid (HG2.out.grow hi6 hg6); clear hi6 hg6)
            | fail "no")
          clear c0 c1 c2 c3 c4 c5 hlk
          go_wp2
          go_roundw
          case rel => exact ⟨k + 1, n + 1, by omega, by go_num, by have := HN.out; omega, HG3.out⟩
          case measure => simp [intOf]; omega
        · obtain rfl : k = P := by omega
          obtain rfl := hn
          have HGE := Lib.hid hg
          clear hg
          go_wp2
          go_roundw
          case rel => exact ⟨r + 1, q + k, by omega, by go_num, HQ.out, HGE.out⟩
          case measure => simp [intOf]; omega
    · obtain rfl : r = 2 := by omega
      have HG0 := Lib.hid hg
      have HP2 := Lib.hid hq
      clear hg hq
      have HI2 := Lib.hid (Iv.made wr rfl)
      obtain ⟨b2, hb2⟩ : ∃ b2, b2 = wr.heap.size := ⟨_, rfl⟩
      have HGY : Hid (Gy w (wr.alloc (.map #[] 0)) SB b1 q b2 0 x) := Lib.hid (by subst hb2; exact ⟨HG0.out.later ((Below.refl _ _).alloc (Nat.le_refl _) _), HI2.out, fun e => by have := IZ.lt HG0.out.m1; omega, HG0.out.bel.size⟩)
      go_upto_region 15 with fail
      rw [← hb2]
      generalize wr.alloc (.map #[] 0) = W3 at HGY ⊢
      clear HI2 hb2 HG0
      have HAL := Lib.hid (HF.out.all W3)
      obtain ⟨c0, c1, c2, c3, c4, c5⟩ := HGY.out.g.sh.cells6
      have HF2 : Hid (q = 1 + 2 * P) := Lib.hid HP2.out
      go_wp2_with (first
        | (go_at_call 14; (with_reducible refine HAL.out.mono ?_); rintro en w4 ⟨rfl, hb4⟩; have HY1 := Lib.hid (HGY.out.later hb4); clear hb4)
        | fail "no")
      clear c0 c1 c2 c3 c4 c5 HGY HAL
      go_loopw [38] (fun i wr => ∃ t z y : Nat, t ≤ A ∧ i = .int .i64 t ∧ z = t * S ∧ y = q + t ∧ Gy w wr SB b1 y b2 z x) (fun i _ => A - (intOf i).toNat)
      case atStart => exact ⟨0, 0, q, by omega, rfl, by omega, by omega, HY1.out⟩
      case round =>
        clear HY1
        rename World => wt
        obtain ⟨t, z, y, htA, rfl, hz, hy, hg⟩ := hrel
        have hz5 : z ≤ 1000 * 1000 := by rw [hz]; exact Nat.mul_le_mul (by omega) hS.2
        by_cases hlt : t < A
        · have g1 : (t : Int) < A := by omega
          have g3 : y ≤ 10000000 := by omega
          have HST := Lib.hid (HF.out.stripeAt t y (by rw [hy, HF2.out]) (by omega) wt)
          have HSL := Lib.hid (fun W => HF.out.slots W)
          have HG0 := Lib.hid hg
          obtain ⟨c0, c1, c2, c3, c4, c5⟩ := hg.g.sh.cells6
          have HPL := Lib.hid (fun (k n : Nat) (hk : k < S) (hn : n = z + k) (W : World) => HF.out.place t k n (by omega) (by omega) (by rw [← hz]; exact hn) W)
          have HQ := Lib.hid (show z + S = (t + 1) * S by rw [hz, Nat.succ_mul])
          have HY := Lib.hid hy
          clear hz hg hy
          go_upto_region 19 with (first
            | (go_at_call 27; (with_reducible refine HST.out.mono ?_); rintro en w5 ⟨rfl, hb5⟩; have HG1 := Lib.hid (HG0.out.later hb5); have hlk := HG1.out.g.m1.look g3; clear hb5)
            | (refine wpList_up rfl _ _ _ rfl rfl HG1.out.g.m1 g3 rfl rfl ?_; intro w6 hi6 hg6; have HG2 := Lib.hid (HG1.out.grow1 hi6 hg6); clear hi6 hg6)
            | fail "no")
          clear c0 c1 c2 c3 c4 c5 hlk HG0 HG1 HST
          obtain ⟨c0, c1, c2, c3, c4, c5⟩ := HG2.out.g.sh.cells6
          go_wp2_with (first
            | (go_at_call 19; (with_reducible refine (HSL.out _).mono ?_); rintro en w7 ⟨rfl, hb7⟩; have HG3 := Lib.hid (HG2.out.later hb7); clear hb7)
            | fail "no")
          clear c0 c1 c2 c3 c4 c5 HG2
          go_loopw [49] (fun i wi => ∃ k n : Nat, k ≤ S ∧ i = .int .i64 k ∧ n = z + k ∧ Gy w wi SB b1 (y + 1) b2 n x) (fun i _ => S - (intOf i).toNat)
          case atStart => exact ⟨0, z, by omega, rfl, by omega, HG3.out⟩
          case round =>
            clear HG3
            rename World => wi
            obtain ⟨k, n, hk, rfl, hn, hg⟩ := hrel
            by_cases hkl : k < S
            · have g2 : (k : Int) < S := by omega
              have g4 : n ≤ 10000000 := by omega
              have HPB := Lib.hid (HPL.out k n hkl hn wi)
              obtain ⟨c0, c1, c2, c3, c4, c5⟩ := hg.g.sh.cells6
              have HG1 := Lib.hid hg
              have HN := Lib.hid hn
              clear hg hn
              go_upto_region 23 with (first
                | (go_at_call 17; (with_reducible refine HPB.out.mono ?_); rintro en w5 ⟨rfl, hb5⟩; have HG2 := Lib.hid (HG1.out.later hb5); have hlk := HG2.out.m2.look g4; clear hb5)
                | (refine wpList_up rfl _ _ _ rfl rfl HG2.out.m2 g4 rfl rfl ?_; intro w6 hi6 hg6; have HG3 := Lib.hid (HG2.out.grow2 hi6 hg6); clear hi6 hg6)
                | fail "no")
              clear c0 c1 c2 c3 c4 c5 hlk
              go_wp2
              go_roundw
              case rel => exact ⟨k + 1, n + 1, by omega, by go_num, by have := HN.out; omega, HG3.out⟩
              case measure => simp [intOf]; omega
            · obtain rfl : k = S := by omega
              obtain rfl := hn
              have HGE := Lib.hid hg
              clear hg
              go_wp2
              go_roundw
              case rel => exact ⟨t + 1, z + k, y + 1, by omega, by go_num, HQ.out, by have := HY.out; omega, HGE.out⟩
              case measure => simp [intOf]; omega
        · obtain rfl : t = A := by omega
          have HGE := Lib.hid hg
          have HZ := Lib.hid hz
          clear hg hz
          go_upto_region 25 with fail
          have hHK : ∀ W', Below wt.heap.size wt W' → (W'.cell? ⟨SB, 0, none⟩ = some (.int .i64 x.m) ∧ W'.cell? ⟨SB, 1, none⟩ = some (.int .i64 x.b) ∧ W'.cell? ⟨SB, 2, none⟩ = some (.int .i64 x.s) ∧ W'.cell? ⟨SB, 3, none⟩ = some (.int .i64 x.t) ∧ W'.cell? ⟨SB, 4, none⟩ = some (.int .i64 x.n) ∧ W'.cell? ⟨SB, 5, none⟩ = some (.int .i64 x.l) ∧ (Builtin.len_ #[44] 3 #[.map (some b1)]).run Try.prog W' = .ok (.int .i64 (y : Int)) W' ∧ (Builtin.len_ #[44] 3 #[.map (some b2)]).run Try.prog W' = .ok (.int .i64 (z : Int)) W') := fun W' h => by
            have hk := HGE.out.later h
            obtain ⟨c0, c1, c2, c3, c4, c5⟩ := hk.g.sh.cells6
            exact ⟨c0, c1, c2, c3, c4, c5, IZ.len hk.g.m1 MTii _, IZ.len hk.m2 MTii _⟩
          obtain ⟨c0, c1, c2, c3, c4, c5, l1, l2⟩ := hHK wt (Below.refl _ _)
          have HK := Lib.hid hHK
          have HSE := Lib.hid (fun W => HF.out.sectors y (by rw [hy, HF2.out]) W)
          have HAL := Lib.hid (fun W => HF.out.all W)
          have HSL := Lib.hid (fun W => HF.out.slots W)
          have hw1 : IntKind.i64.wrap ((t : Int) * (S : Int)) = (z : Int) := by rw [HZ.out]; exact IntWalk.i64_in _ (by have := HZ.out ▸ hz5; omega)
          have hN5 : y ≤ 100000 := by omega
          clear hy hHK hmm
          go_region_held3 (fun W' => W'.cell? ⟨SB, 0, none⟩ = some (.int .i64 x.m) ∧ W'.cell? ⟨SB, 1, none⟩ = some (.int .i64 x.b) ∧ W'.cell? ⟨SB, 2, none⟩ = some (.int .i64 x.s) ∧ W'.cell? ⟨SB, 3, none⟩ = some (.int .i64 x.t) ∧ W'.cell? ⟨SB, 4, none⟩ = some (.int .i64 x.n) ∧ W'.cell? ⟨SB, 5, none⟩ = some (.int .i64 x.l) ∧ (Builtin.len_ #[44] 3 #[.map (some b1)]).run Try.prog W' = .ok (.int .i64 (y : Int)) W' ∧ (Builtin.len_ #[44] 3 #[.map (some b2)]).run Try.prog W' = .ok (.int .i64 (z : Int)) W')
            (exact HK.out _ (by (repeat' (first | (with_reducible exact Below.refl _ _) | (with_reducible exact HBc.out) | (with_reducible exact HBb.out) | (with_reducible exact HBa.out) | (with_reducible refine Below.drew ?_)))))
            (first
              | (go_at_call 25; (with_reducible refine (HSE.out _).mono ?_); rintro en wa ⟨rfl, hba⟩; have HBa := Lib.hid (below_then (show Below wt.heap.size wt _ from by (repeat' (first | (with_reducible exact Below.refl _ _) | (with_reducible refine Below.drew ?_)))) hba); clear hba)
              | (go_at_call 14; (with_reducible refine (HAL.out _).mono ?_); rintro en wb ⟨rfl, hbb⟩; have HBb := Lib.hid (below_then (show Below wt.heap.size wt _ from by (repeat' (first | (with_reducible exact HBa.out) | (with_reducible refine Below.drew ?_)))) hbb); clear hbb)
              | (go_at_call 19; (with_reducible refine (HSL.out _).mono ?_); rintro en wc ⟨rfl, hbc⟩; have HBc := Lib.hid (below_then (show Below wt.heap.size wt _ from by (repeat' (first | (with_reducible exact HBb.out) | (with_reducible refine Below.drew ?_)))) hbc); clear hbc)
              | fail "no arm")
          have hgy := HGE.out.later HBc.out
          have HSH := Lib.hid hgy.g.sh
          have HBL := Lib.hid hgy.g.bel
          obtain ⟨D, hown, hism, hhas, hatk, hsz⟩ := hgy.g.m1.own
          obtain ⟨R, hR⟩ : ∃ R, R = wc.heap.size := ⟨_, rfl⟩
          have hSR : SB < R := by rw [hR]; exact hgy.g.sh.lt
          have hwR : w.heap.size ≤ R := by rw [hR]; exact hgy.g.bel.size
          have law3 : Keyed Try.prog 3 := int_keyed Try.underlying3
          clear c0 c1 c2 c3 c4 c5 l1 l2 HK HSL HAL hw1 hgy
          go_wp2_with (first
            | (at_range; refine wpList_range_own _ rfl _ 44 rfl 3 3 law3 Try.underlying44 _ b1 y _ rfl hown ?_; intro wd hrg0 hg0 hs0)
            | fail "no")
          go_frame
          rw [← hR] at hrg0 ⊢
          clear hR
          go_loopw [10] (fun _ wr => ∃ (left : Lit → Bool) (cnt : Nat), wr.ranges Try.prog 3 (plainElem Try.prog 3) b1 R y D left cnt ∧ (∀ kl, left kl = true → Maps.has D kl = true) ∧ Blk wr SB 23 #[.int .i64 x.m, .int .i64 x.b, .int .i64 x.s, .int .i64 x.t, .int .i64 x.n, .int .i64 x.l] ∧ Below w.heap.size w wr) (fun _ wr => wr.rangeLeft b1 R)
          case atStart => exact ⟨_, _, hrg0, fun _ h => h, HSH.out.grown hg0 (by simp), HBL.out.grown hg0 HBL.out.size (fun j hj => by cases hj)⟩
          case round =>
            rename World => we
            obtain ⟨left, cnt, hrg, hleft, hblk, hbel⟩ := hrel
            go_wp2_with (first
              | (at_next; refine wpList_next_ranges_ii _ rfl _ rfl 3 3 .i64 .i64 law3 Try.underlying3 Try.underlying3 b1 R y _ _ _ rfl hrg ?_ ?_)
              | fail "no")
            · intro hc0 hl0
              go_wp2
              go_ret
              exact ⟨rfl, hbel⟩
            · intro ky cv w1 cnt1 hwx hwc hlx hat1 hrg1 hlt1 hg1 hs1 hen
              have hdom := hleft _ hlx
              rw [hhas] at hdom
              have hin := upto_in hdom
              have hcv : cv = 1 := by
                have h1 := hat1 (.lit (.int .i64 0))
                rw [hatk, upto_one hin] at h1
                injection h1 with h1
                injection h1 with _ h1
                exact h1.symm
              subst hcv
              have hblk1 := hblk.grown hg1 (fun e => by injection e with e; omega)
              have hbel1 := hbel.grown hg1 hbel.size (fun j hj => by injection hj with hj; omega)
              obtain ⟨c0, c1, c2, c3, c4, c5⟩ := hblk1.cells6
              have g0 : ¬ ky < 0 := by omega
              have g1 : ¬ (y : Int) ≤ ky := by omega
              have hdec : decide ((y : Int) ≤ ky) = false := decide_eq_false g1
              have hdec2 : decide (ky < 0) = false := decide_eq_false g0
              have HH := Lib.hid hrg1
              have HBK := Lib.hid hblk1
              have HBE := Lib.hid hbel1
              have HL := Lib.hid hleft
              have HLT := Lib.hid hlt1
              have HRG := Lib.hid hrg
              clear hrg1 hblk1 hbel1 hblk hbel hleft hlt1 hrg hdom hlx hat1
              go_wp2_with (first
                | (go_at_call 25; (with_reducible refine (HSE.out _).mono ?_); rintro en wf ⟨rfl, hbf⟩; have HBF := Lib.hid hbf; clear hbf)
                | fail "no")
              go_roundw
              case rel =>
                exact ⟨_, cnt1, HH.out.kept (grown_none HBF.out) (by simp) (by simp), fun kl h => HL.out kl (by simp only [Bool.and_eq_true] at h; exact h.1), HBK.out.later HBF.out, HBE.out.trans (HBF.out.mono HBE.out.size)⟩
              case measure => rw [(HH.out.kept (grown_none HBF.out) (by simp) (by simp)).left_eq, HRG.out.left_eq]; exact HLT.out
end Go.Proofs.Ytidakgfblehipaa
