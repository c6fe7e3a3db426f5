/- The walk of GeomSpoilt. No further condition. -/
import Derived.Test.YtidakgfblehipaaGe
namespace Go.Proofs.Ytidakgfblehipaa
open Go.RowKit
attribute [local go_sem ↓] Go.wp_at_zero Go.wp_at_succ

/-- A shape, one of its numbers another one. -/
def turn (x : Sh) (q : Nat) (n : Int) : Sh := match q with
  | 0 => { x with m := n }
  | 1 => { x with b := n }
  | 2 => { x with s := n }
  | 3 => { x with t := n }
  | 4 => { x with n := n }
  | _ => { x with l := n }
theorem turn_set (x : Sh) (q : Nat) (n : Int) (h : q < 6) : (#[.int .i64 x.m, .int .i64 x.b, .int .i64 x.s, .int .i64 x.t, .int .i64 x.n, .int .i64 x.l] : Array Value).setIfInBounds q (.int .i64 n) = #[.int .i64 (turn x q n).m, .int .i64 (turn x q n).b, .int .i64 (turn x q n).s, .int .i64 (turn x q n).t, .int .i64 (turn x q n).n, .int .i64 (turn x q n).l] := by
  match q, h with
  | 0, _ => rfl
  | 1, _ => rfl
  | 2, _ => rfl
  | 3, _ => rfl
  | 4, _ => rfl
  | 5, _ => rfl
theorem six_at {a b c d e f : Value} (k : Nat) (h : k < 6) : ∃ v, (#[a, b, c, d, e, f] : Array Value)[k]? = some v := by
  match k, h with
  | 0, _ => exact ⟨_, rfl⟩
  | 1, _ => exact ⟨_, rfl⟩
  | 2, _ => exact ⟨_, rfl⟩
  | 3, _ => exact ⟨_, rfl⟩
  | 4, _ => exact ⟨_, rfl⟩
  | 5, _ => exact ⟨_, rfl⟩
def ptrs (S : Nat) : Array Value := #[.pointer (some ⟨S, 0, none⟩), .pointer (some ⟨S, 1, none⟩), .pointer (some ⟨S, 2, none⟩), .pointer (some ⟨S, 3, none⟩), .pointer (some ⟨S, 4, none⟩), .pointer (some ⟨S, 5, none⟩)]
theorem ptrs_at (S k : Nat) (h : k < 6) : (ptrs S)[k]? = some (.pointer (some ⟨S, k, none⟩)) := by
  match k, h with
  | 0, _ => rfl
  | 1, _ => rfl
  | 2, _ => rfl
  | 3, _ => rfl
  | 4, _ => rfl
  | 5, _ => rfl
/-- The shape's block, the pointers' block. -/
structure Gs (w0 W : World) (S P : Nat) (x : Sh) : Prop where
  sh : Blk W S 23 #[.int .i64 x.m, .int .i64 x.b, .int .i64 x.s, .int .i64 x.t, .int .i64 x.n, .int .i64 x.l]
  pt : Blk W P 32 (ptrs S)
  bel : Below w0.heap.size w0 W
  far : w0.heap.size ≤ S
theorem Gs.turn {w0 W : World} {S P : Nat} {x : Sh} (k : Gs w0 W S P x) (q : Nat) (n : Int) (h : q < 6) : Gs w0 (W.setCell ⟨S, q, none⟩ (.int .i64 n)) S P (turn x q n) := by
  have h9 := k.sh.set_ q (.int .i64 n)
  rw [turn_set x q n h] at h9
  exact ⟨h9, k.pt.far (p := ⟨S, q, none⟩) (Blk.ne_ k.pt k.sh (by decide)) _, k.bel.setCell (p := ⟨S, q, none⟩) k.far _, k.far⟩
theorem checkE (x : Sh) (r : Int) (h : chk x = r) (W : World) : Calls Try.prog 11 #[.agg #[.int .i64 x.m, .int .i64 x.b, .int .i64 x.s, .int .i64 x.t, .int .i64 x.n, .int .i64 x.l]] W fun e w' => e = .returned (.int .i64 r) ∧ Below W.heap.size W w' := by
  rw [← h]
  exact check_ok x W
theorem mayE (x : Sh) (r : Bool) (h : mayB x = r) (W : World) : Calls Try.prog 12 #[.agg #[.int .i64 x.m, .int .i64 x.b, .int .i64 x.s, .int .i64 x.t, .int .i64 x.n, .int .i64 x.l]] W fun e w' => e = .returned (.bool r) ∧ Below W.heap.size W w' := by
  rw [← h]
  exact may_ok x W
set_option maxRecDepth 100000 in
set_option maxHeartbeats 12800000 in
theorem spoilt_walk (a b c d e f : Int) (wh : Nat) (n : Int) (w : World) (h8 : Ok8 a b c d e f) (_hw : wh < 256) (hn : -32768 ≤ n ∧ n ≤ 32767) :
    Calls Try.prog 4 #[.agg #[.int .u8 a, .int .u8 b, .int .u8 c, .int .u8 d, .int .u8 e, .int .u8 f], .int .u8 wh, .int .i16 n] w fun e w' => e = .returned (.bool true) ∧ Below w.heap.size w w' := by
  obtain ⟨x, hx⟩ : ∃ x, x = shOf a b c d e f := ⟨_, rfl⟩
  have hck : chk x = 0 := by unfold chk; rw [hx, shOf_may h8]; rfl
  obtain ⟨q, hq⟩ : ∃ q, q = wh % 6 := ⟨_, rfl⟩
  have hq6 : q < 6 := by omega
  have hqi : (wh : Int) % 6 = q := by omega
  have wq : IntKind.i64.wrap (q : Int) = q := IntWalk.i64_in _ (by omega)
  have wn : IntKind.i64.wrap n = n := IntWalk.i64_in _ (by omega)
  have H8 := Lib.hid h8
  have HX := Lib.hid hx
  have HCK := Lib.hid hck
  have HAW := Lib.hid (awake_ok (w.alloc (.cells #[.int .u8 a, .int .u8 b, .int .u8 c, .int .u8 d, .int .u8 e, .int .u8 f] 29)))
  have HB0 := Lib.hid ((Below.refl w.heap.size w).alloc (Nat.le_refl _) (.cells #[.int .u8 a, .int .u8 b, .int .u8 c, .int .u8 d, .int .u8 e, .int .u8 f] 29))
  have HS0 := Lib.hid (Blk.new w 29 #[.int .u8 a, .int .u8 b, .int .u8 c, .int .u8 d, .int .u8 e, .int .u8 f])
  clear h8 hx hck hq
  go_enter Try.func4, Try.ntmps4
  go_wp2_with (first
    | (go_at_call 10; (with_reducible refine HAW.out.mono ?_); rintro e w1 ⟨rfl, hb1⟩; have HB1 := Lib.hid (HB0.out.trans (hb1.mono HB0.out.size)); obtain ⟨p0, p1, p2, p3, p4, p5⟩ := (HS0.out.later hb1).cells6; clear hb1)
    | (go_at_call 13; (with_reducible refine (shapeL a b c d e f x HX.out H8.out _).mono ?_); rintro e w2 ⟨rfl, hb2⟩; have HB2 := Lib.hid (HB1.out.trans (hb2.mono HB1.out.size)); have HB3 : Hid (Below w.heap.size w (w2.alloc (.cells #[.int .i64 x.m, .int .i64 x.b, .int .i64 x.s, .int .i64 x.t, .int .i64 x.n, .int .i64 x.l] 23))) := Lib.hid (HB2.out.alloc HB2.out.size _); have HL2 := Lib.hid (Blk.new w2 23 #[.int .i64 x.m, .int .i64 x.b, .int .i64 x.s, .int .i64 x.t, .int .i64 x.n, .int .i64 x.l]); clear hb2)
    | (go_at_call 11; (with_reducible refine (checkE x 0 HCK.out _).mono ?_); rintro e w3 ⟨rfl, hb3⟩; have HB4 := Lib.hid (HB3.out.trans (hb3.mono HB3.out.size)); have HL3 := Lib.hid (HL2.out.later hb3); clear hb3)
    | fail "no")
  have hg : Gs w (w3.alloc (.cells (ptrs w2.heap.size) 32)) w2.heap.size w3.heap.size x := ⟨HL3.out.alloc _, Blk.new _ _ _, HB4.out.alloc HB4.out.size _, HB2.out.size⟩
  unfold ptrs at hg
  have HG := Lib.hid hg
  clear hg
  obtain ⟨S, hS⟩ : ∃ S, S = w2.heap.size := ⟨_, rfl⟩
  obtain ⟨P, hP⟩ : ∃ P, P = w3.heap.size := ⟨_, rfl⟩
  rw [← hS, ← hP] at HG ⊢
  clear hS hP HB4 HL3 HB3 HL2 HB2 HB1 HS0 HB0
  go_loopw [8, 9, 25] (fun _ _ i wr => ∃ k : Nat, k ≤ 6 ∧ i = .int .i64 k ∧ Gs w wr S P (if q < k then turn x q n else x)) (fun _ _ i _ => 6 - (intOf i).toNat)
  case atStart => exact ⟨0, by omega, rfl, by rw [if_neg (by omega)]; exact HG.out⟩
  case round =>
    obtain ⟨k, hk, rfl, hg⟩ := hrel
    by_cases hlt : k < 6
    · obtain ⟨v, hv⟩ := six_at (a := .int .i64 (if q < k then turn x q n else x).m) (b := .int .i64 (if q < k then turn x q n else x).b) (c := .int .i64 (if q < k then turn x q n else x).s) (d := .int .i64 (if q < k then turn x q n else x).t) (e := .int .i64 (if q < k then turn x q n else x).n) (f := .int .i64 (if q < k then turn x q n else x).l) k hlt
      have hcS := hg.sh.at_ hv
      have hcP := hg.pt.at_ (ptrs_at S k hlt)
      have hfS := hg.sh.frozen k
      have g1 : (k : Int) < 6 := by omega
      have HGk := Lib.hid hg
      clear hg hv
      by_cases hkq : k = q
      · have d1 : ((k : Int) == (q : Int)) = true := by simp; omega
        have d1n : (k == q) = true := by simp; omega
        have ht : Hid (Gs w (wr.setCell ⟨S, k, none⟩ (.int .i64 n)) S P (if q < k + 1 then turn x q n else x)) := Lib.hid (by
          have h9 := HGk.out.turn k n hlt
          rw [if_neg (by omega)] at h9
          rw [if_pos (by omega), ← hkq]
          exact h9)
        clear hkq
        go_wp2
        go_roundw
        case rel => exact ⟨k + 1, by omega, by go_num, ht.out⟩
        case measure => simp [intOf]; omega
      · have d1 : ((k : Int) == (q : Int)) = false := by simp; omega
        have d1n : (k == q) = false := by simp; omega
        have ht : Hid (Gs w wr S P (if q < k + 1 then turn x q n else x)) := Lib.hid (by
          have h9 := HGk.out
          by_cases h : q < k
          · rw [if_pos h] at h9
            rw [if_pos (by omega)]
            exact h9
          · rw [if_neg h] at h9
            rw [if_neg (by omega)]
            exact h9)
        clear hkq
        go_wp2
        go_roundw
        case rel => exact ⟨k + 1, by omega, by go_num, ht.out⟩
        case measure => simp [intOf]; omega
    · obtain rfl : k = 6 := by omega
      rw [if_pos hq6] at hg
      obtain ⟨y, hy⟩ : ∃ y, y = turn x q n := ⟨_, rfl⟩
      rw [← hy] at hg
      obtain ⟨c0, c1, c2, c3, c4, c5⟩ := hg.sh.cells6
      have HGk := Lib.hid hg
      clear hg hy
      go_wp2
      rcases hr : mayB y with _ | _
      · have hch : chk y = 1 := by unfold chk; rw [hr]; rfl
        have HR := Lib.hid hr
        have HCH := Lib.hid hch
        clear hr hch
        go_region_held3 (fun w' => w'.cell? ⟨S, 0, none⟩ = some (.int .i64 y.m) ∧ w'.cell? ⟨S, 1, none⟩ = some (.int .i64 y.b) ∧ w'.cell? ⟨S, 2, none⟩ = some (.int .i64 y.s) ∧ w'.cell? ⟨S, 3, none⟩ = some (.int .i64 y.t) ∧ w'.cell? ⟨S, 4, none⟩ = some (.int .i64 y.n) ∧ w'.cell? ⟨S, 5, none⟩ = some (.int .i64 y.l))
          (first | exact ⟨by assumption, by assumption, by assumption, by assumption, by assumption, by assumption⟩ | go_keep)
          (first
            | (go_at_call 11; (with_reducible refine (checkE y 1 HCH.out _).mono ?_); rintro e wa ⟨rfl, hba⟩; have HBa : Hid (Below wr.heap.size wr wa) := Lib.hid ((Below.refl _ _).drew.trans hba); obtain ⟨x0, x1, x2, x3, x4, x5⟩ := (HGk.out.sh.later HBa.out).cells6; clear hba)
            | (go_at_call 12; (with_reducible refine (mayE y false HR.out _).mono ?_); rintro e wb ⟨rfl, hbb⟩; have HBb := Lib.hid (HBa.out.trans (hbb.mono HBa.out.size)); obtain ⟨y0, y1, y2, y3, y4, y5⟩ := (HGk.out.sh.later HBb.out).cells6; clear hbb)
            | fail "no arm")
        go_wp2
        go_ret
        exact ⟨rfl, HGk.out.bel.trans (HBb.out.mono HGk.out.bel.size)⟩
      · have hch : chk y = 0 := by unfold chk; rw [hr]; rfl
        have HR := Lib.hid hr
        have HCH := Lib.hid hch
        clear hr hch
        go_region_held3 (fun w' => w'.cell? ⟨S, 0, none⟩ = some (.int .i64 y.m) ∧ w'.cell? ⟨S, 1, none⟩ = some (.int .i64 y.b) ∧ w'.cell? ⟨S, 2, none⟩ = some (.int .i64 y.s) ∧ w'.cell? ⟨S, 3, none⟩ = some (.int .i64 y.t) ∧ w'.cell? ⟨S, 4, none⟩ = some (.int .i64 y.n) ∧ w'.cell? ⟨S, 5, none⟩ = some (.int .i64 y.l))
          (first | exact ⟨by assumption, by assumption, by assumption, by assumption, by assumption, by assumption⟩ | go_keep)
          (first
            | (go_at_call 11; (with_reducible refine (checkE y 0 HCH.out _).mono ?_); rintro e wa ⟨rfl, hba⟩; have HBa : Hid (Below wr.heap.size wr wa) := Lib.hid ((Below.refl _ _).drew.trans hba); obtain ⟨x0, x1, x2, x3, x4, x5⟩ := (HGk.out.sh.later HBa.out).cells6; clear hba)
            | (go_at_call 12; (with_reducible refine (mayE y true HR.out _).mono ?_); rintro e wb ⟨rfl, hbb⟩; have HBb := Lib.hid (HBa.out.trans (hbb.mono HBa.out.size)); obtain ⟨y0, y1, y2, y3, y4, y5⟩ := (HGk.out.sh.later HBb.out).cells6; clear hbb)
            | fail "no arm")
        go_wp2
        go_ret
        exact ⟨rfl, HGk.out.bel.trans (HBb.out.mono HGk.out.bel.size)⟩
theorem geomSpoilt_true (a b c d e f wh n : Int) (w : World) (h0 : (Lit.int .u8 a).wf = true) (h1 : (Lit.int .u8 b).wf = true) (h2 : (Lit.int .u8 c).wf = true) (h3 : (Lit.int .u8 d).wf = true) (h4 : (Lit.int .u8 e).wf = true) (h5 : (Lit.int .u8 f).wf = true) (h6 : (Lit.int .u8 wh).wf = true) (h7 : (Lit.int .i16 n).wf = true) :
    Calls Try.prog 4 #[.agg #[.int .u8 a, .int .u8 b, .int .u8 c, .int .u8 d, .int .u8 e, .int .u8 f], .int .u8 wh, .int .i16 n] w fun e w' => e = .returned (.bool true) ∧ Below w.heap.size w w' := by
  have g1 := u8_in_ h6
  have g2 : -32768 ≤ n ∧ n ≤ 32767 := by simp [Lit.wf, IntKind.min, IntKind.max, IntKind.bits, IntKind.signed] at h7; omega
  obtain ⟨wh, rfl⟩ := Int.eq_ofNat_of_zero_le g1.1
  exact spoilt_walk a b c d e f wh n w (ok8_of h0 h1 h2 h3 h4 h5) (by omega) g2
end Go.Proofs.Ytidakgfblehipaa
