/- The walk of SuperSpoilt. No further condition. -/
import Derived.Test.YtcgodkahkgpojaaSv
import Derived.Laws.BitsAllLaws
namespace Go.Proofs.Ytcgodkahkgpojaa
open Go.RowKit
attribute [local go_sem ↓] Go.wp_at_zero Go.wp_at_succ

/-- A row of the call's own, one of its bytes another one. -/
theorem own_turn {w : World} {base g n c i : Nat} {xs : List Int} {y : Int} (k : w.ownsRow base 5 1 (.slice (some ⟨g, 0, none⟩) n c) n (byv xs)) (_hi : i < n) :
    (w.setCell ⟨g, i, none⟩ (.int .u8 y)).ownsRow base 5 1 (.slice (some ⟨g, 0, none⟩) n c) n (byv (xs.set i y)) ∧ Below base w (w.setCell ⟨g, i, none⟩ (.int .u8 y)) ∧ w.frozen? ⟨g, i, none⟩ = false := by
  obtain ⟨h1, h2⟩ := k
  rcases h2 with ⟨e, -⟩ | ⟨g', cap, cur, e, hb, hh, hnc, hm, hs, hx⟩
  · cases e
  · injection e with e e2 e3
    injection e with e
    injection e with e
    subst e e3
    have hk : Blk w g 5 cur := hh
    have hset : (w.setCell ⟨g, i, none⟩ (.int .u8 y)).heap[g]? = some (.cells (cur.setIfInBounds i (.int .u8 y)) 5 (0, 0)) := hk.set_ i _
    refine ⟨⟨by simpa [byv] using h1, .inr ⟨g, c, _, rfl, hb, hset, hnc, hm, by simpa using hs, ?_⟩⟩, (Below.refl _ _).setCell hb _, hk.frozen i⟩
    rw [Array.toList_setIfInBounds, List.take_set, hx]
    simp [byv, List.map_set]
/-- Which byte is turned. -/
def tix (a N : Nat) : Nat := if a % 2 = 0 then a / 2 % 18 else a % N
theorem tellsR (x : Sh) (k : Int) (h : LbOk x k) (w : World) :
    Calls Try.prog 12 #[.agg #[.int .i64 x.m, .int .i64 x.b, .int .i64 x.s, .int .i64 x.t, .int .i64 x.n, .int .i64 x.l, .int .i64 k]] w fun e w' => (∃ r, e = .returned r ∧ w'.ownsRow w.heap.size 5 1 r (sect x k).length (byv (sect x k))) ∧ Below w.heap.size w w' :=
  tells_ok x k w h.sm h.k (by have := h.m; omega) (by have := h.b; omega)
set_option maxRecDepth 100000 in
set_option maxHeartbeats 12800000 in
theorem spoilt_walk00 (a b c d e f : Int) (mm at_ by_ : Nat) (w : World) (h8 : Ok8 a b c d e f) (hm8 : mm < 256) (ha8 : at_ < 256) (hb8 : by_ < 256) :
    Calls Try.prog 6 #[.agg #[.int .u8 a, .int .u8 b, .int .u8 c, .int .u8 d, .int .u8 e, .int .u8 f], .int .u8 mm, .int .u8 at_, .int .u8 by_, .bool false, .bool false] w fun e w' => e = .returned (.bool true) ∧ Below w.heap.size w w' := by
  obtain ⟨i0, hi0, hz0, hz1, hz2⟩ := info_parts (show (Try.prog.info? 5).map (fun i => (i.zero, i.size, i.bytes)) = some (some (.int .u8 0), 1, 1) by kernel_rfl)
  obtain ⟨sh, hsh⟩ : ∃ sh, sh = shOf a b c d e f := ⟨_, rfl⟩
  obtain ⟨kk, hkk⟩ : ∃ kk : Int, kk = (mm : Int) % 6 := ⟨_, rfl⟩
  have hok : LbOk sh kk := by rw [hsh]; exact shOf_ok h8 (by omega)
  have hbb : 32 ≤ sh.b ∧ sh.b ≤ 40 := by rw [hsh]; exact (shOf_m h8).2.1
  have hxl := sect_len hok
  have hxo := sect_oct sh kk
  have htel := fun W => tellsR sh kk hok W
  obtain ⟨xs, hxs⟩ : ∃ xs, xs = sect sh kk := ⟨_, rfl⟩
  rw [← hxs] at hxl hxo htel
  obtain ⟨N, hN⟩ : ∃ N, N = xs.length := ⟨_, rfl⟩
  have hx40 : 32 ≤ N := by omega
  have hx200 : N ≤ 40 := by omega
  obtain ⟨i, hi⟩ : ∃ i, i = tix at_ N := ⟨_, rfl⟩
  have hil : i < N := by rw [hi]; unfold tix; split; omega; exact Nat.mod_lt _ (by omega)
  obtain ⟨x, hx⟩ : ∃ x, xs[i]? = some x := ⟨_, List.getElem?_eq_getElem (by omega)⟩
  have hxx := hxo x (List.mem_of_getElem? hx)
  obtain ⟨x, rfl⟩ := Int.eq_ofNat_of_zero_le hxx.1
  have hxor := u8_xor_nat x by_ (by omega) hb8
  have hy : x ^^^ by_ < 256 := Nat.xor_lt_two_pow (n := 8) (by omega) (by omega)
  obtain ⟨y, hyy⟩ : ∃ y, y = x ^^^ by_ := ⟨_, rfl⟩
  rw [← hyy] at hxor hy
  obtain ⟨ts, hts⟩ : ∃ ts, ts = xs.set i (y : Int) := ⟨_, rfl⟩
  have htl : ts.length = N := by rw [hts, List.length_set, hN]
  have hto : Oct ts := by
    rw [hts]
    intro q hq
    rcases List.mem_or_eq_of_mem_set hq with h | h
    · exact hxo q h
    · omega
  have hcell : ∀ W g, Rd W (some ⟨g, 0, none⟩) (byv xs) → W.cell? ⟨g, i, none⟩ = some (.int .u8 x) := fun W g hW => by
    obtain ⟨_, e, h⟩ := hW i (.int .u8 x) (by simp [byv, hx])
    injection e with e
    subst e
    rw [add_zero_addr, Nat.zero_add] at h
    exact h
  have HCELL := Lib.hid hcell
  have HTS := Lib.hid hts
  rw [← hN] at htel
  have HTEL := Lib.hid htel
  have HX := Lib.hid hsh
  have H8 := Lib.hid h8
  have hil2 : (i : Int) < (N : Int) := by omega
  have hN2 : (N : Int) ≤ 40 := by omega
  have hNnz : ((N : Int) == 0) = false := by simp; omega
  have hw8 : IntKind.i64.wrap (at_ : Int) = at_ := IntWalk.i64_in _ (by omega)
  have hm6 : (mm : Int) % 6 = kk := hkk.symm
  have hwm : IntKind.i64.wrap kk = kk := IntWalk.i64_in _ (by omega)
  obtain ⟨q1, hq1⟩ : ∃ q1, q1 = at_ % N := ⟨_, rfl⟩
  have hmod : (at_ : Int) % (N : Int) = (q1 : Int) := by rw [hq1]; rfl
  have hmodt : (at_ : Int).tmod (N : Int) = (q1 : Int) := by rw [Int.tmod_eq_emod_of_nonneg (by omega), hmod]
  have hq40 : q1 < 40 := by rw [hq1]; have := Nat.mod_lt at_ (show N > 0 by omega); omega
  have HX40 := Lib.hid hx40
  have HIL := Lib.hid hil
  have HAW := Lib.hid (awake_ok (w.alloc (.cells #[.int .u8 a, .int .u8 b, .int .u8 c, .int .u8 d, .int .u8 e, .int .u8 f] 23)))
  have HB0 := Lib.hid ((Below.refl w.heap.size w).alloc (Nat.le_refl _) (.cells #[.int .u8 a, .int .u8 b, .int .u8 c, .int .u8 d, .int .u8 e, .int .u8 f] 23))
  have HS0 := Lib.hid (Blk.new w 23 #[.int .u8 a, .int .u8 b, .int .u8 c, .int .u8 d, .int .u8 e, .int .u8 f])
  have hfo := hto
  have hfl := htl
  obtain ⟨m, b', s, t, n, l, k, cd, hbo⟩ := both_of ts (by omega) hfo
  rw [hfl] at hbo
  have HBO := Lib.hid hbo
  have hq := fun W => lb_eql m b' s t n l k W
  have hpar : (at_ % 2 = 0 ∧ at_ / 2 % 18 = i) ∨ (at_ % 2 = 1 ∧ i = q1) := by
    rw [hi, hq1]
    unfold tix
    split
    · exact .inl ⟨by omega, rfl⟩
    · exact .inr ⟨by omega, rfl⟩
  clear h8 hok hbb hxl hxo hxs htel hsh hkk hN hil hx hxx hyy hts htl hto hcell hi hq1 hfo hfl hbo
  rcases hpar with ⟨hp, hq2⟩ | ⟨hp, hq2⟩
  · have hp2 : (at_ : Int) % 2 = 0 := by omega
    have hq3 : (at_ : Int) / 2 % 18 = (i : Int) := by omega
    have hi18 : (i : Int) < 18 := by omega
    clear hp hq2
    go_enter Try.func6, Try.ntmps6
    go_wp2_with (first
      | (go_at_call 7; (with_reducible refine HAW.out.mono ?_); rintro e w1 ⟨rfl, hb1⟩; have HB1 := Lib.hid (HB0.out.trans (hb1.mono HB0.out.size)); obtain ⟨p0, p1, p2, p3, p4, p5⟩ := (HS0.out.later hb1).cells6; clear hb1)
      | (go_at_call 8; (with_reducible refine (shapeL a b c d e f sh HX.out H8.out _).mono ?_); rintro e w2 ⟨rfl, hb2⟩; have HB2 := Lib.hid (HB1.out.trans (hb2.mono HB1.out.size)); clear hb2)
      | (go_at_call 12; (with_reducible refine (HTEL.out _).mono ?_); rintro e w3 ⟨⟨r3, rfl, hown3⟩, hb3⟩; obtain ⟨g3, c3, cur3, rfl, hg3, -, -, -⟩ := own_block hown3 (by have := HX40.out; omega); have hr3 := Rd.of_own hown3; have hq3 := HCELL.out _ _ hr3; obtain ⟨ho4, hb4, hf4⟩ := own_turn (y := (y : Int)) hown3 HIL.out; rw [← HTS.out] at ho4; obtain ⟨A4', c4', e4, hr4, hc4, -⟩ := own_formc ho4; injection e4 with e41 e42 e43; subst e41 e43; clear e42; have HR4 := Lib.hid hr4; have HC4 := Lib.hid hc4; have HB3 := Lib.hid (HB2.out.trans (hb3.mono HB2.out.size)); have HB4 := Lib.hid (HB3.out.trans (hb4.mono HB2.out.size)); clear hown3 hb3 hr3 ho4 hb4 hr4 hc4)
      | (go_at_call 11; (with_reducible refine (HBO.out.dec _ _ _ HR4.out HC4.out).mono ?_); rintro e wd ⟨rfl, hbd⟩; have hbda := hbd.alloc hbd.size (.cells #[.int .i64 m, .int .i64 b', .int .i64 s, .int .i64 t, .int .i64 n, .int .i64 l, .int .i64 k] 29); have HBd := Lib.hid (HB4.out.trans (hbda.mono HB4.out.size)); have HXd := Lib.hid (Blk.new wd 29 #[.int .i64 m, .int .i64 b', .int .i64 s, .int .i64 t, .int .i64 n, .int .i64 l, .int .i64 k]); have HRd := Lib.hid (HR4.out.later hbda); clear hbd hbda)
      | (go_at_call 14; (with_reducible refine (HBO.out.rea _ _ _ HRd.out HC4.out).mono ?_); rintro e wr ⟨rfl, hbr⟩; have hbra := hbr.alloc hbr.size (.cells #[.int .i64 m, .int .i64 b', .int .i64 s, .int .i64 t, .int .i64 n, .int .i64 l, .int .i64 k] 29); have HBr := Lib.hid (HBd.out.trans (hbra.mono HBd.out.size)); obtain ⟨y0, y1, y2, y3, y4, y5, y6⟩ := (Blk.new wr 29 #[.int .i64 m, .int .i64 b', .int .i64 s, .int .i64 t, .int .i64 n, .int .i64 l, .int .i64 k]).cells7; obtain ⟨x0, x1, x2, x3, x4, x5, x6⟩ := (HXd.out.later hbra).cells7; clear hbr hbra)
      | fail "no")
    go_ret
    exact ⟨by simp, HBr.out⟩
  · have hp2 : (at_ : Int) % 2 = 1 := by omega
    subst hq2
    clear hp
    go_enter Try.func6, Try.ntmps6
    go_wp2_with (first
      | (go_at_call 7; (with_reducible refine HAW.out.mono ?_); rintro e w1 ⟨rfl, hb1⟩; have HB1 := Lib.hid (HB0.out.trans (hb1.mono HB0.out.size)); obtain ⟨p0, p1, p2, p3, p4, p5⟩ := (HS0.out.later hb1).cells6; clear hb1)
      | (go_at_call 8; (with_reducible refine (shapeL a b c d e f sh HX.out H8.out _).mono ?_); rintro e w2 ⟨rfl, hb2⟩; have HB2 := Lib.hid (HB1.out.trans (hb2.mono HB1.out.size)); clear hb2)
      | (go_at_call 12; (with_reducible refine (HTEL.out _).mono ?_); rintro e w3 ⟨⟨r3, rfl, hown3⟩, hb3⟩; obtain ⟨g3, c3, cur3, rfl, hg3, -, -, -⟩ := own_block hown3 (by have := HX40.out; omega); have hr3 := Rd.of_own hown3; have hq3 := HCELL.out _ _ hr3; obtain ⟨ho4, hb4, hf4⟩ := own_turn (y := (y : Int)) hown3 HIL.out; rw [← HTS.out] at ho4; obtain ⟨A4', c4', e4, hr4, hc4, -⟩ := own_formc ho4; injection e4 with e41 e42 e43; subst e41 e43; clear e42; have HR4 := Lib.hid hr4; have HC4 := Lib.hid hc4; have HB3 := Lib.hid (HB2.out.trans (hb3.mono HB2.out.size)); have HB4 := Lib.hid (HB3.out.trans (hb4.mono HB2.out.size)); clear hown3 hb3 hr3 ho4 hb4 hr4 hc4)
      | (go_at_call 11; (with_reducible refine (HBO.out.dec _ _ _ HR4.out HC4.out).mono ?_); rintro e wd ⟨rfl, hbd⟩; have hbda := hbd.alloc hbd.size (.cells #[.int .i64 m, .int .i64 b', .int .i64 s, .int .i64 t, .int .i64 n, .int .i64 l, .int .i64 k] 29); have HBd := Lib.hid (HB4.out.trans (hbda.mono HB4.out.size)); have HXd := Lib.hid (Blk.new wd 29 #[.int .i64 m, .int .i64 b', .int .i64 s, .int .i64 t, .int .i64 n, .int .i64 l, .int .i64 k]); have HRd := Lib.hid (HR4.out.later hbda); clear hbd hbda)
      | (go_at_call 14; (with_reducible refine (HBO.out.rea _ _ _ HRd.out HC4.out).mono ?_); rintro e wr ⟨rfl, hbr⟩; have hbra := hbr.alloc hbr.size (.cells #[.int .i64 m, .int .i64 b', .int .i64 s, .int .i64 t, .int .i64 n, .int .i64 l, .int .i64 k] 29); have HBr := Lib.hid (HBd.out.trans (hbra.mono HBd.out.size)); obtain ⟨y0, y1, y2, y3, y4, y5, y6⟩ := (Blk.new wr 29 #[.int .i64 m, .int .i64 b', .int .i64 s, .int .i64 t, .int .i64 n, .int .i64 l, .int .i64 k]).cells7; obtain ⟨x0, x1, x2, x3, x4, x5, x6⟩ := (HXd.out.later hbra).cells7; clear hbr hbra)
      | fail "no")
    go_ret
    exact ⟨by simp, HBr.out⟩
set_option maxRecDepth 100000 in
set_option maxHeartbeats 12800000 in
theorem spoilt_walk01 (a b c d e f : Int) (mm at_ by_ : Nat) (w : World) (h8 : Ok8 a b c d e f) (hm8 : mm < 256) (ha8 : at_ < 256) (hb8 : by_ < 256) :
    Calls Try.prog 6 #[.agg #[.int .u8 a, .int .u8 b, .int .u8 c, .int .u8 d, .int .u8 e, .int .u8 f], .int .u8 mm, .int .u8 at_, .int .u8 by_, .bool false, .bool true] w fun e w' => e = .returned (.bool true) ∧ Below w.heap.size w w' := by
  obtain ⟨i0, hi0, hz0, hz1, hz2⟩ := info_parts (show (Try.prog.info? 5).map (fun i => (i.zero, i.size, i.bytes)) = some (some (.int .u8 0), 1, 1) by kernel_rfl)
  obtain ⟨sh, hsh⟩ : ∃ sh, sh = shOf a b c d e f := ⟨_, rfl⟩
  obtain ⟨kk, hkk⟩ : ∃ kk : Int, kk = (mm : Int) % 6 := ⟨_, rfl⟩
  have hok : LbOk sh kk := by rw [hsh]; exact shOf_ok h8 (by omega)
  have hbb : 32 ≤ sh.b ∧ sh.b ≤ 40 := by rw [hsh]; exact (shOf_m h8).2.1
  have hxl := sect_len hok
  have hxo := sect_oct sh kk
  have htel := fun W => tellsR sh kk hok W
  obtain ⟨xs, hxs⟩ : ∃ xs, xs = sect sh kk := ⟨_, rfl⟩
  rw [← hxs] at hxl hxo htel
  obtain ⟨N, hN⟩ : ∃ N, N = xs.length := ⟨_, rfl⟩
  have hx40 : 32 ≤ N := by omega
  have hx200 : N ≤ 40 := by omega
  obtain ⟨i, hi⟩ : ∃ i, i = tix at_ N := ⟨_, rfl⟩
  have hil : i < N := by rw [hi]; unfold tix; split; omega; exact Nat.mod_lt _ (by omega)
  obtain ⟨x, hx⟩ : ∃ x, xs[i]? = some x := ⟨_, List.getElem?_eq_getElem (by omega)⟩
  have hxx := hxo x (List.mem_of_getElem? hx)
  obtain ⟨x, rfl⟩ := Int.eq_ofNat_of_zero_le hxx.1
  have hxor := u8_xor_nat x by_ (by omega) hb8
  have hy : x ^^^ by_ < 256 := Nat.xor_lt_two_pow (n := 8) (by omega) (by omega)
  obtain ⟨y, hyy⟩ : ∃ y, y = x ^^^ by_ := ⟨_, rfl⟩
  rw [← hyy] at hxor hy
  obtain ⟨ts, hts⟩ : ∃ ts, ts = xs.set i (y : Int) := ⟨_, rfl⟩
  have htl : ts.length = N := by rw [hts, List.length_set, hN]
  have hto : Oct ts := by
    rw [hts]
    intro q hq
    rcases List.mem_or_eq_of_mem_set hq with h | h
    · exact hxo q h
    · omega
  have hcell : ∀ W g, Rd W (some ⟨g, 0, none⟩) (byv xs) → W.cell? ⟨g, i, none⟩ = some (.int .u8 x) := fun W g hW => by
    obtain ⟨_, e, h⟩ := hW i (.int .u8 x) (by simp [byv, hx])
    injection e with e
    subst e
    rw [add_zero_addr, Nat.zero_add] at h
    exact h
  have HCELL := Lib.hid hcell
  have HTS := Lib.hid hts
  rw [← hN] at htel
  have HTEL := Lib.hid htel
  have HX := Lib.hid hsh
  have H8 := Lib.hid h8
  have hil2 : (i : Int) < (N : Int) := by omega
  have hN2 : (N : Int) ≤ 40 := by omega
  have hNnz : ((N : Int) == 0) = false := by simp; omega
  have hw8 : IntKind.i64.wrap (at_ : Int) = at_ := IntWalk.i64_in _ (by omega)
  have hm6 : (mm : Int) % 6 = kk := hkk.symm
  have hwm : IntKind.i64.wrap kk = kk := IntWalk.i64_in _ (by omega)
  obtain ⟨q1, hq1⟩ : ∃ q1, q1 = at_ % N := ⟨_, rfl⟩
  have hmod : (at_ : Int) % (N : Int) = (q1 : Int) := by rw [hq1]; rfl
  have hmodt : (at_ : Int).tmod (N : Int) = (q1 : Int) := by rw [Int.tmod_eq_emod_of_nonneg (by omega), hmod]
  have hq40 : q1 < 40 := by rw [hq1]; have := Nat.mod_lt at_ (show N > 0 by omega); omega
  have HX40 := Lib.hid hx40
  have HIL := Lib.hid hil
  have HAW := Lib.hid (awake_ok (w.alloc (.cells #[.int .u8 a, .int .u8 b, .int .u8 c, .int .u8 d, .int .u8 e, .int .u8 f] 23)))
  have HB0 := Lib.hid ((Below.refl w.heap.size w).alloc (Nat.le_refl _) (.cells #[.int .u8 a, .int .u8 b, .int .u8 c, .int .u8 d, .int .u8 e, .int .u8 f] 23))
  have HS0 := Lib.hid (Blk.new w 23 #[.int .u8 a, .int .u8 b, .int .u8 c, .int .u8 d, .int .u8 e, .int .u8 f])
  have hfo := hto
  have hfl := htl
  obtain ⟨N1, hN1⟩ : ∃ N1, N1 = N - 1 := ⟨_, rfl⟩
  have hNI : (N : Int) - 1 = N1 := by omega
  have wn1 : IntKind.i64.wrap (N1 : Int) = N1 := IntWalk.i64_in _ (by omega)
  have hNN : N1 ≤ N := by omega
  have hNN2 : (N1 : Int) ≤ (N : Int) := by omega
  have hgl : (ts.take N1).length = N1 := by rw [List.length_take, hfl]; omega
  obtain ⟨m, b', s, t, n, l, k, cd, hbo⟩ := both_of (ts.take N1) (by omega) (hfo.take _)
  rw [hgl] at hbo
  have HBO := Lib.hid hbo
  have hq := fun W => lb_eql m b' s t n l k W
  have hpar : (at_ % 2 = 0 ∧ at_ / 2 % 18 = i) ∨ (at_ % 2 = 1 ∧ i = q1) := by
    rw [hi, hq1]
    unfold tix
    split
    · exact .inl ⟨by omega, rfl⟩
    · exact .inr ⟨by omega, rfl⟩
  clear h8 hok hbb hxl hxo hxs htel hsh hkk hN hil hx hxx hyy hts htl hto hcell hi hq1 hfo hfl hbo hN1 hgl
  rcases hpar with ⟨hp, hq2⟩ | ⟨hp, hq2⟩
  · have hp2 : (at_ : Int) % 2 = 0 := by omega
    have hq3 : (at_ : Int) / 2 % 18 = (i : Int) := by omega
    have hi18 : (i : Int) < 18 := by omega
    clear hp hq2
    go_enter Try.func6, Try.ntmps6
    go_wp2_with (first
      | (go_at_call 7; (with_reducible refine HAW.out.mono ?_); rintro e w1 ⟨rfl, hb1⟩; have HB1 := Lib.hid (HB0.out.trans (hb1.mono HB0.out.size)); obtain ⟨p0, p1, p2, p3, p4, p5⟩ := (HS0.out.later hb1).cells6; clear hb1)
      | (go_at_call 8; (with_reducible refine (shapeL a b c d e f sh HX.out H8.out _).mono ?_); rintro e w2 ⟨rfl, hb2⟩; have HB2 := Lib.hid (HB1.out.trans (hb2.mono HB1.out.size)); clear hb2)
      | (go_at_call 12; (with_reducible refine (HTEL.out _).mono ?_); rintro e w3 ⟨⟨r3, rfl, hown3⟩, hb3⟩; obtain ⟨g3, c3, cur3, rfl, hg3, -, -, -⟩ := own_block hown3 (by have := HX40.out; omega); have hr3 := Rd.of_own hown3; have hq3 := HCELL.out _ _ hr3; obtain ⟨ho4, hb4, hf4⟩ := own_turn (y := (y : Int)) hown3 HIL.out; rw [← HTS.out] at ho4; obtain ⟨A4', c4', e4, hr4, hc4, -⟩ := own_formc ho4; injection e4 with e41 e42 e43; subst e41 e43; clear e42; have HR4 := Lib.hid hr4; have HC4 := Lib.hid hc4; have HB3 := Lib.hid (HB2.out.trans (hb3.mono HB2.out.size)); have HB4 := Lib.hid (HB3.out.trans (hb4.mono HB2.out.size)); have hcn := fun W => cut_lo_ 31 1 Try.underlying31 (fun _ => by kernel_rfl) (some ⟨g3, 0, none⟩) N c3 N1 (N1 : Int) rfl (by have := HC4.out; omega) W; have HR7 : Hid (Rd _ (some ⟨g3, 0, none⟩) (byv (ts.take N1))) := Lib.hid (by rw [byv_take]; exact HR4.out.take_ _); have HC7 : Hid (N1 ≤ c3) := Lib.hid (by have := HC4.out; omega); clear hown3 hb3 hr3 ho4 hb4 hr4 hc4)
      | (go_at_call 11; (with_reducible refine (HBO.out.dec _ _ _ HR7.out HC7.out).mono ?_); rintro e wd ⟨rfl, hbd⟩; have hbda := hbd.alloc hbd.size (.cells #[.int .i64 m, .int .i64 b', .int .i64 s, .int .i64 t, .int .i64 n, .int .i64 l, .int .i64 k] 29); have HBd := Lib.hid (HB4.out.trans (hbda.mono HB4.out.size)); have HXd := Lib.hid (Blk.new wd 29 #[.int .i64 m, .int .i64 b', .int .i64 s, .int .i64 t, .int .i64 n, .int .i64 l, .int .i64 k]); have HRd := Lib.hid (HR7.out.later hbda); clear hbd hbda)
      | (go_at_call 14; (with_reducible refine (HBO.out.rea _ _ _ HRd.out HC7.out).mono ?_); rintro e wr ⟨rfl, hbr⟩; have hbra := hbr.alloc hbr.size (.cells #[.int .i64 m, .int .i64 b', .int .i64 s, .int .i64 t, .int .i64 n, .int .i64 l, .int .i64 k] 29); have HBr := Lib.hid (HBd.out.trans (hbra.mono HBd.out.size)); obtain ⟨y0, y1, y2, y3, y4, y5, y6⟩ := (Blk.new wr 29 #[.int .i64 m, .int .i64 b', .int .i64 s, .int .i64 t, .int .i64 n, .int .i64 l, .int .i64 k]).cells7; obtain ⟨x0, x1, x2, x3, x4, x5, x6⟩ := (HXd.out.later hbra).cells7; clear hbr hbra)
      | fail "no")
    go_ret
    exact ⟨by simp, HBr.out⟩
  · have hp2 : (at_ : Int) % 2 = 1 := by omega
    subst hq2
    clear hp
    go_enter Try.func6, Try.ntmps6
    go_wp2_with (first
      | (go_at_call 7; (with_reducible refine HAW.out.mono ?_); rintro e w1 ⟨rfl, hb1⟩; have HB1 := Lib.hid (HB0.out.trans (hb1.mono HB0.out.size)); obtain ⟨p0, p1, p2, p3, p4, p5⟩ := (HS0.out.later hb1).cells6; clear hb1)
      | (go_at_call 8; (with_reducible refine (shapeL a b c d e f sh HX.out H8.out _).mono ?_); rintro e w2 ⟨rfl, hb2⟩; have HB2 := Lib.hid (HB1.out.trans (hb2.mono HB1.out.size)); clear hb2)
      | (go_at_call 12; (with_reducible refine (HTEL.out _).mono ?_); rintro e w3 ⟨⟨r3, rfl, hown3⟩, hb3⟩; obtain ⟨g3, c3, cur3, rfl, hg3, -, -, -⟩ := own_block hown3 (by have := HX40.out; omega); have hr3 := Rd.of_own hown3; have hq3 := HCELL.out _ _ hr3; obtain ⟨ho4, hb4, hf4⟩ := own_turn (y := (y : Int)) hown3 HIL.out; rw [← HTS.out] at ho4; obtain ⟨A4', c4', e4, hr4, hc4, -⟩ := own_formc ho4; injection e4 with e41 e42 e43; subst e41 e43; clear e42; have HR4 := Lib.hid hr4; have HC4 := Lib.hid hc4; have HB3 := Lib.hid (HB2.out.trans (hb3.mono HB2.out.size)); have HB4 := Lib.hid (HB3.out.trans (hb4.mono HB2.out.size)); have hcn := fun W => cut_lo_ 31 1 Try.underlying31 (fun _ => by kernel_rfl) (some ⟨g3, 0, none⟩) N c3 N1 (N1 : Int) rfl (by have := HC4.out; omega) W; have HR7 : Hid (Rd _ (some ⟨g3, 0, none⟩) (byv (ts.take N1))) := Lib.hid (by rw [byv_take]; exact HR4.out.take_ _); have HC7 : Hid (N1 ≤ c3) := Lib.hid (by have := HC4.out; omega); clear hown3 hb3 hr3 ho4 hb4 hr4 hc4)
      | (go_at_call 11; (with_reducible refine (HBO.out.dec _ _ _ HR7.out HC7.out).mono ?_); rintro e wd ⟨rfl, hbd⟩; have hbda := hbd.alloc hbd.size (.cells #[.int .i64 m, .int .i64 b', .int .i64 s, .int .i64 t, .int .i64 n, .int .i64 l, .int .i64 k] 29); have HBd := Lib.hid (HB4.out.trans (hbda.mono HB4.out.size)); have HXd := Lib.hid (Blk.new wd 29 #[.int .i64 m, .int .i64 b', .int .i64 s, .int .i64 t, .int .i64 n, .int .i64 l, .int .i64 k]); have HRd := Lib.hid (HR7.out.later hbda); clear hbd hbda)
      | (go_at_call 14; (with_reducible refine (HBO.out.rea _ _ _ HRd.out HC7.out).mono ?_); rintro e wr ⟨rfl, hbr⟩; have hbra := hbr.alloc hbr.size (.cells #[.int .i64 m, .int .i64 b', .int .i64 s, .int .i64 t, .int .i64 n, .int .i64 l, .int .i64 k] 29); have HBr := Lib.hid (HBd.out.trans (hbra.mono HBd.out.size)); obtain ⟨y0, y1, y2, y3, y4, y5, y6⟩ := (Blk.new wr 29 #[.int .i64 m, .int .i64 b', .int .i64 s, .int .i64 t, .int .i64 n, .int .i64 l, .int .i64 k]).cells7; obtain ⟨x0, x1, x2, x3, x4, x5, x6⟩ := (HXd.out.later hbra).cells7; clear hbr hbra)
      | fail "no")
    go_ret
    exact ⟨by simp, HBr.out⟩
set_option maxRecDepth 100000 in
set_option maxHeartbeats 12800000 in
theorem spoilt_walk10 (a b c d e f : Int) (mm at_ by_ : Nat) (w : World) (h8 : Ok8 a b c d e f) (hm8 : mm < 256) (ha8 : at_ < 256) (hb8 : by_ < 256) :
    Calls Try.prog 6 #[.agg #[.int .u8 a, .int .u8 b, .int .u8 c, .int .u8 d, .int .u8 e, .int .u8 f], .int .u8 mm, .int .u8 at_, .int .u8 by_, .bool true, .bool false] w fun e w' => e = .returned (.bool true) ∧ Below w.heap.size w w' := by
  obtain ⟨i0, hi0, hz0, hz1, hz2⟩ := info_parts (show (Try.prog.info? 5).map (fun i => (i.zero, i.size, i.bytes)) = some (some (.int .u8 0), 1, 1) by kernel_rfl)
  obtain ⟨sh, hsh⟩ : ∃ sh, sh = shOf a b c d e f := ⟨_, rfl⟩
  obtain ⟨kk, hkk⟩ : ∃ kk : Int, kk = (mm : Int) % 6 := ⟨_, rfl⟩
  have hok : LbOk sh kk := by rw [hsh]; exact shOf_ok h8 (by omega)
  have hbb : 32 ≤ sh.b ∧ sh.b ≤ 40 := by rw [hsh]; exact (shOf_m h8).2.1
  have hxl := sect_len hok
  have hxo := sect_oct sh kk
  have htel := fun W => tellsR sh kk hok W
  obtain ⟨xs, hxs⟩ : ∃ xs, xs = sect sh kk := ⟨_, rfl⟩
  rw [← hxs] at hxl hxo htel
  obtain ⟨N, hN⟩ : ∃ N, N = xs.length := ⟨_, rfl⟩
  have hx40 : 32 ≤ N := by omega
  have hx200 : N ≤ 40 := by omega
  obtain ⟨i, hi⟩ : ∃ i, i = tix at_ N := ⟨_, rfl⟩
  have hil : i < N := by rw [hi]; unfold tix; split; omega; exact Nat.mod_lt _ (by omega)
  obtain ⟨x, hx⟩ : ∃ x, xs[i]? = some x := ⟨_, List.getElem?_eq_getElem (by omega)⟩
  have hxx := hxo x (List.mem_of_getElem? hx)
  obtain ⟨x, rfl⟩ := Int.eq_ofNat_of_zero_le hxx.1
  have hxor := u8_xor_nat x by_ (by omega) hb8
  have hy : x ^^^ by_ < 256 := Nat.xor_lt_two_pow (n := 8) (by omega) (by omega)
  obtain ⟨y, hyy⟩ : ∃ y, y = x ^^^ by_ := ⟨_, rfl⟩
  rw [← hyy] at hxor hy
  obtain ⟨ts, hts⟩ : ∃ ts, ts = xs.set i (y : Int) := ⟨_, rfl⟩
  have htl : ts.length = N := by rw [hts, List.length_set, hN]
  have hto : Oct ts := by
    rw [hts]
    intro q hq
    rcases List.mem_or_eq_of_mem_set hq with h | h
    · exact hxo q h
    · omega
  have hcell : ∀ W g, Rd W (some ⟨g, 0, none⟩) (byv xs) → W.cell? ⟨g, i, none⟩ = some (.int .u8 x) := fun W g hW => by
    obtain ⟨_, e, h⟩ := hW i (.int .u8 x) (by simp [byv, hx])
    injection e with e
    subst e
    rw [add_zero_addr, Nat.zero_add] at h
    exact h
  have HCELL := Lib.hid hcell
  have HTS := Lib.hid hts
  rw [← hN] at htel
  have HTEL := Lib.hid htel
  have HX := Lib.hid hsh
  have H8 := Lib.hid h8
  have hil2 : (i : Int) < (N : Int) := by omega
  have hN2 : (N : Int) ≤ 40 := by omega
  have hNnz : ((N : Int) == 0) = false := by simp; omega
  have hw8 : IntKind.i64.wrap (at_ : Int) = at_ := IntWalk.i64_in _ (by omega)
  have hm6 : (mm : Int) % 6 = kk := hkk.symm
  have hwm : IntKind.i64.wrap kk = kk := IntWalk.i64_in _ (by omega)
  obtain ⟨q1, hq1⟩ : ∃ q1, q1 = at_ % N := ⟨_, rfl⟩
  have hmod : (at_ : Int) % (N : Int) = (q1 : Int) := by rw [hq1]; rfl
  have hmodt : (at_ : Int).tmod (N : Int) = (q1 : Int) := by rw [Int.tmod_eq_emod_of_nonneg (by omega), hmod]
  have hq40 : q1 < 40 := by rw [hq1]; have := Nat.mod_lt at_ (show N > 0 by omega); omega
  have HX40 := Lib.hid hx40
  have HIL := Lib.hid hil
  have HAW := Lib.hid (awake_ok (w.alloc (.cells #[.int .u8 a, .int .u8 b, .int .u8 c, .int .u8 d, .int .u8 e, .int .u8 f] 23)))
  have HB0 := Lib.hid ((Below.refl w.heap.size w).alloc (Nat.le_refl _) (.cells #[.int .u8 a, .int .u8 b, .int .u8 c, .int .u8 d, .int .u8 e, .int .u8 f] 23))
  have HS0 := Lib.hid (Blk.new w 23 #[.int .u8 a, .int .u8 b, .int .u8 c, .int .u8 d, .int .u8 e, .int .u8 f])
  obtain ⟨ys, hys⟩ : ∃ ys, ys = ts.take 18 := ⟨_, rfl⟩
  obtain ⟨zs, hzs⟩ : ∃ zs, zs = ts.drop 22 := ⟨_, rfl⟩
  have hyl : ys.length = 18 := by rw [hys, List.length_take]; omega
  have hzl : zs.length = N - 22 := by rw [hzs, List.length_drop, htl]
  have hyo : Oct ys := by rw [hys]; exact hto.take _
  have hzo : Oct zs := by rw [hzs]; exact hto.drop _
  have hseal := fun W A c (hW : Rd W A (byv ts)) => sealed_ok A c ys W (by rw [hys, byv_take]; exact hW.take _) (by omega) hyo
  rw [hyl] at hseal
  have hsl : (sealL ys).length = 22 := by rw [sealL_len]; omega
  have hfo : Oct (sealL ys ++ zs) := (sealL_oct hyo).app hzo
  have hfl : (sealL ys ++ zs).length = N := by rw [List.length_append, hsl]; omega
  have HZS := Lib.hid hzs
  have HZL := Lib.hid hzl
  have HSN : Hid (22 + zs.length = N) := Lib.hid (by omega)
  have HTL := Lib.hid htl
  have HSEAL := Lib.hid hseal
  have HSL := Lib.hid hsl
  have hcl : zs.length ≤ 18 := by omega
  obtain ⟨m, b', s, t, n, l, k, cd, hbo⟩ := both_of (sealL ys ++ zs) (by omega) hfo
  rw [hfl] at hbo
  have HBO := Lib.hid hbo
  have hq := fun W => lb_eql m b' s t n l k W
  have hpar : (at_ % 2 = 0 ∧ at_ / 2 % 18 = i) ∨ (at_ % 2 = 1 ∧ i = q1) := by
    rw [hi, hq1]
    unfold tix
    split
    · exact .inl ⟨by omega, rfl⟩
    · exact .inr ⟨by omega, rfl⟩
  clear h8 hok hbb hxl hxo hxs htel hsh hkk hN hil hx hxx hyy hts htl hto hcell hi hq1 hfo hfl hbo hys hzs hyl hzl hyo hzo hseal hsl
  rcases hpar with ⟨hp, hq2⟩ | ⟨hp, hq2⟩
  · have hp2 : (at_ : Int) % 2 = 0 := by omega
    have hq3 : (at_ : Int) / 2 % 18 = (i : Int) := by omega
    have hi18 : (i : Int) < 18 := by omega
    clear hp hq2
    go_enter Try.func6, Try.ntmps6
    go_wp2_with (first
      | (go_at_call 7; (with_reducible refine HAW.out.mono ?_); rintro e w1 ⟨rfl, hb1⟩; have HB1 := Lib.hid (HB0.out.trans (hb1.mono HB0.out.size)); obtain ⟨p0, p1, p2, p3, p4, p5⟩ := (HS0.out.later hb1).cells6; clear hb1)
      | (go_at_call 8; (with_reducible refine (shapeL a b c d e f sh HX.out H8.out _).mono ?_); rintro e w2 ⟨rfl, hb2⟩; have HB2 := Lib.hid (HB1.out.trans (hb2.mono HB1.out.size)); clear hb2)
      | (go_at_call 12; (with_reducible refine (HTEL.out _).mono ?_); rintro e w3 ⟨⟨r3, rfl, hown3⟩, hb3⟩; obtain ⟨g3, c3, cur3, rfl, hg3, -, -, -⟩ := own_block hown3 (by have := HX40.out; omega); have hr3 := Rd.of_own hown3; have hq3 := HCELL.out _ _ hr3; obtain ⟨ho4, hb4, hf4⟩ := own_turn (y := (y : Int)) hown3 HIL.out; rw [← HTS.out] at ho4; obtain ⟨A4', c4', e4, hr4, hc4, -⟩ := own_formc ho4; injection e4 with e41 e42 e43; subst e41 e43; clear e42; have HR4 := Lib.hid hr4; have HC4 := Lib.hid hc4; have HB3 := Lib.hid (HB2.out.trans (hb3.mono HB2.out.size)); have HB4 := Lib.hid (HB3.out.trans (hb4.mono HB2.out.size)); clear hown3 hb3 hr3 ho4 hb4 hr4 hc4)
      | fail "no")
    generalize w3.setCell ⟨g3, i, none⟩ (.int .u8 (y : Int)) = W4 at HR4 HB4 ⊢
    have hcut4 := fun W => cut_lo_ 31 1 Try.underlying31 (fun _ => by kernel_rfl) (some ⟨g3, 0, none⟩) N c3 18 18 rfl (by have := HC4.out; have := HX40.out; omega) W
    obtain ⟨A2', hA2⟩ : ∃ A2', A2' = (if c3 = 22 then some (⟨g3, 0, none⟩ : Addr) else (some (⟨g3, 0, none⟩ : Addr)).map (·.add (22 * 1))) := ⟨_, rfl⟩
    have hcut := fun W => cut_hi_ 31 1 Try.underlying31 (fun _ => by kernel_rfl) (some ⟨g3, 0, none⟩) N c3 22 22 rfl (by have := HX40.out; omega) W
    rw [← hA2, ← HZL.out] at hcut
    have hR2 : ∀ W, Rd W (some ⟨g3, 0, none⟩) (byv ts) → Rd W A2' (byv zs) := fun W hW => by
      have := hW.cutg (size := 1) (c := c3) (n := 22) (len := N) (by simp [byv_len, HTL.out]) HC4.out
      rw [← hA2, Nat.mul_one, ← byv_drop, ← HZS.out] at this
      exact this
    have HR2x := Lib.hid hR2
    clear hA2 hR2
    have HRAd : Hid (Rd W4.drew (some ⟨g3, 0, none⟩) (byv ts)) := Lib.hid (HR4.out.later (below_drewN (Below.refl _ _) 1))
    have HB4d : Hid (Below w.heap.size w W4.drew) := Lib.hid (below_drewN HB4.out 1)
    have hLN3 : (22 : Int) ≤ (N : Int) := by have := HX40.out; omega
    have hLc3 : (22 : Int) ≤ (c3 : Int) := by have := HX40.out; have := HC4.out; omega
    go_region_held3 (fun _ => True) (exact trivial)
      (first
        | (go_at_call 13; (with_reducible refine (HSEAL.out _ _ _ HRAd.out).mono ?_); rintro e w5 ⟨r5, rfl, hown5, hb5⟩; have HB5 := Lib.hid (HB4d.out.trans (hb5.mono HB4d.out.size)); obtain ⟨A5, c5, rfl, -, -⟩ := own_form hown5; rw [HSL.out] at hown5 ⊢; have HO5 := Lib.hid (ownsRow_base hown5 HB4d.out.size); have HR5' := Lib.hid (HR2x.out _ (HRAd.out.later hb5)); clear hown5 hb5)
        | (refine step_append_any _ (by rfl) _ _ 31 (by rfl) w.heap.size 5 i0 (.int .u8 0) 1 1 Try.underlying31 hi0 hz0 hz1 hz2 rfl (by decide) (.slice A5 22 c5) 22 (byv (sealL ys)) (by rfl) HO5.out A2' zs.length (c3 - 22) (byv zs) (by rfl) (by simp [byv_len]) HR5'.out (byv_one _) (by unfold maxLen; omega) (by omega) HB5.out.size ?_; intro v6 w6 hown6 hg6 hat6; have HB6 := Lib.hid (HB5.out.grown hg6 HB5.out.size (fun b hb => (HO5.out.lt b hb).1)); rw [← byv_app, HSN.out] at hown6; obtain ⟨A6, c6, rfl, hr6, hc6, -⟩ := own_formc hown6; have HR6 := Lib.hid hr6; have HC6 := Lib.hid hc6; clear hown6 hg6 hat6 hr6 hc6)
        | fail "no arm")
    go_wp2_with (first
      | (go_at_call 11; (with_reducible refine (HBO.out.dec _ _ _ HR6.out HC6.out).mono ?_); rintro e wd ⟨rfl, hbd⟩; have hbda := hbd.alloc hbd.size (.cells #[.int .i64 m, .int .i64 b', .int .i64 s, .int .i64 t, .int .i64 n, .int .i64 l, .int .i64 k] 29); have HBd := Lib.hid (HB6.out.trans (hbda.mono HB6.out.size)); have HXd := Lib.hid (Blk.new wd 29 #[.int .i64 m, .int .i64 b', .int .i64 s, .int .i64 t, .int .i64 n, .int .i64 l, .int .i64 k]); have HRd := Lib.hid (HR6.out.later hbda); clear hbd hbda)
      | (go_at_call 14; (with_reducible refine (HBO.out.rea _ _ _ HRd.out HC6.out).mono ?_); rintro e wr ⟨rfl, hbr⟩; have hbra := hbr.alloc hbr.size (.cells #[.int .i64 m, .int .i64 b', .int .i64 s, .int .i64 t, .int .i64 n, .int .i64 l, .int .i64 k] 29); have HBr := Lib.hid (HBd.out.trans (hbra.mono HBd.out.size)); obtain ⟨y0, y1, y2, y3, y4, y5, y6⟩ := (Blk.new wr 29 #[.int .i64 m, .int .i64 b', .int .i64 s, .int .i64 t, .int .i64 n, .int .i64 l, .int .i64 k]).cells7; obtain ⟨x0, x1, x2, x3, x4, x5, x6⟩ := (HXd.out.later hbra).cells7; clear hbr hbra)
      | fail "no")
    go_ret
    exact ⟨by simp, HBr.out⟩
  · have hp2 : (at_ : Int) % 2 = 1 := by omega
    subst hq2
    clear hp
    go_enter Try.func6, Try.ntmps6
    go_wp2_with (first
      | (go_at_call 7; (with_reducible refine HAW.out.mono ?_); rintro e w1 ⟨rfl, hb1⟩; have HB1 := Lib.hid (HB0.out.trans (hb1.mono HB0.out.size)); obtain ⟨p0, p1, p2, p3, p4, p5⟩ := (HS0.out.later hb1).cells6; clear hb1)
      | (go_at_call 8; (with_reducible refine (shapeL a b c d e f sh HX.out H8.out _).mono ?_); rintro e w2 ⟨rfl, hb2⟩; have HB2 := Lib.hid (HB1.out.trans (hb2.mono HB1.out.size)); clear hb2)
      | (go_at_call 12; (with_reducible refine (HTEL.out _).mono ?_); rintro e w3 ⟨⟨r3, rfl, hown3⟩, hb3⟩; obtain ⟨g3, c3, cur3, rfl, hg3, -, -, -⟩ := own_block hown3 (by have := HX40.out; omega); have hr3 := Rd.of_own hown3; have hq3 := HCELL.out _ _ hr3; obtain ⟨ho4, hb4, hf4⟩ := own_turn (y := (y : Int)) hown3 HIL.out; rw [← HTS.out] at ho4; obtain ⟨A4', c4', e4, hr4, hc4, -⟩ := own_formc ho4; injection e4 with e41 e42 e43; subst e41 e43; clear e42; have HR4 := Lib.hid hr4; have HC4 := Lib.hid hc4; have HB3 := Lib.hid (HB2.out.trans (hb3.mono HB2.out.size)); have HB4 := Lib.hid (HB3.out.trans (hb4.mono HB2.out.size)); clear hown3 hb3 hr3 ho4 hb4 hr4 hc4)
      | fail "no")
    generalize w3.setCell ⟨g3, i, none⟩ (.int .u8 (y : Int)) = W4 at HR4 HB4 ⊢
    have hcut4 := fun W => cut_lo_ 31 1 Try.underlying31 (fun _ => by kernel_rfl) (some ⟨g3, 0, none⟩) N c3 18 18 rfl (by have := HC4.out; have := HX40.out; omega) W
    obtain ⟨A2', hA2⟩ : ∃ A2', A2' = (if c3 = 22 then some (⟨g3, 0, none⟩ : Addr) else (some (⟨g3, 0, none⟩ : Addr)).map (·.add (22 * 1))) := ⟨_, rfl⟩
    have hcut := fun W => cut_hi_ 31 1 Try.underlying31 (fun _ => by kernel_rfl) (some ⟨g3, 0, none⟩) N c3 22 22 rfl (by have := HX40.out; omega) W
    rw [← hA2, ← HZL.out] at hcut
    have hR2 : ∀ W, Rd W (some ⟨g3, 0, none⟩) (byv ts) → Rd W A2' (byv zs) := fun W hW => by
      have := hW.cutg (size := 1) (c := c3) (n := 22) (len := N) (by simp [byv_len, HTL.out]) HC4.out
      rw [← hA2, Nat.mul_one, ← byv_drop, ← HZS.out] at this
      exact this
    have HR2x := Lib.hid hR2
    clear hA2 hR2
    have HRAd : Hid (Rd W4.drew (some ⟨g3, 0, none⟩) (byv ts)) := Lib.hid (HR4.out.later (below_drewN (Below.refl _ _) 1))
    have HB4d : Hid (Below w.heap.size w W4.drew) := Lib.hid (below_drewN HB4.out 1)
    have hLN3 : (22 : Int) ≤ (N : Int) := by have := HX40.out; omega
    have hLc3 : (22 : Int) ≤ (c3 : Int) := by have := HX40.out; have := HC4.out; omega
    go_region_held3 (fun _ => True) (exact trivial)
      (first
        | (go_at_call 13; (with_reducible refine (HSEAL.out _ _ _ HRAd.out).mono ?_); rintro e w5 ⟨r5, rfl, hown5, hb5⟩; have HB5 := Lib.hid (HB4d.out.trans (hb5.mono HB4d.out.size)); obtain ⟨A5, c5, rfl, -, -⟩ := own_form hown5; rw [HSL.out] at hown5 ⊢; have HO5 := Lib.hid (ownsRow_base hown5 HB4d.out.size); have HR5' := Lib.hid (HR2x.out _ (HRAd.out.later hb5)); clear hown5 hb5)
        | (refine step_append_any _ (by rfl) _ _ 31 (by rfl) w.heap.size 5 i0 (.int .u8 0) 1 1 Try.underlying31 hi0 hz0 hz1 hz2 rfl (by decide) (.slice A5 22 c5) 22 (byv (sealL ys)) (by rfl) HO5.out A2' zs.length (c3 - 22) (byv zs) (by rfl) (by simp [byv_len]) HR5'.out (byv_one _) (by unfold maxLen; omega) (by omega) HB5.out.size ?_; intro v6 w6 hown6 hg6 hat6; have HB6 := Lib.hid (HB5.out.grown hg6 HB5.out.size (fun b hb => (HO5.out.lt b hb).1)); rw [← byv_app, HSN.out] at hown6; obtain ⟨A6, c6, rfl, hr6, hc6, -⟩ := own_formc hown6; have HR6 := Lib.hid hr6; have HC6 := Lib.hid hc6; clear hown6 hg6 hat6 hr6 hc6)
        | fail "no arm")
    go_wp2_with (first
      | (go_at_call 11; (with_reducible refine (HBO.out.dec _ _ _ HR6.out HC6.out).mono ?_); rintro e wd ⟨rfl, hbd⟩; have hbda := hbd.alloc hbd.size (.cells #[.int .i64 m, .int .i64 b', .int .i64 s, .int .i64 t, .int .i64 n, .int .i64 l, .int .i64 k] 29); have HBd := Lib.hid (HB6.out.trans (hbda.mono HB6.out.size)); have HXd := Lib.hid (Blk.new wd 29 #[.int .i64 m, .int .i64 b', .int .i64 s, .int .i64 t, .int .i64 n, .int .i64 l, .int .i64 k]); have HRd := Lib.hid (HR6.out.later hbda); clear hbd hbda)
      | (go_at_call 14; (with_reducible refine (HBO.out.rea _ _ _ HRd.out HC6.out).mono ?_); rintro e wr ⟨rfl, hbr⟩; have hbra := hbr.alloc hbr.size (.cells #[.int .i64 m, .int .i64 b', .int .i64 s, .int .i64 t, .int .i64 n, .int .i64 l, .int .i64 k] 29); have HBr := Lib.hid (HBd.out.trans (hbra.mono HBd.out.size)); obtain ⟨y0, y1, y2, y3, y4, y5, y6⟩ := (Blk.new wr 29 #[.int .i64 m, .int .i64 b', .int .i64 s, .int .i64 t, .int .i64 n, .int .i64 l, .int .i64 k]).cells7; obtain ⟨x0, x1, x2, x3, x4, x5, x6⟩ := (HXd.out.later hbra).cells7; clear hbr hbra)
      | fail "no")
    go_ret
    exact ⟨by simp, HBr.out⟩
set_option maxRecDepth 100000 in
set_option maxHeartbeats 12800000 in
theorem spoilt_walk11 (a b c d e f : Int) (mm at_ by_ : Nat) (w : World) (h8 : Ok8 a b c d e f) (hm8 : mm < 256) (ha8 : at_ < 256) (hb8 : by_ < 256) :
    Calls Try.prog 6 #[.agg #[.int .u8 a, .int .u8 b, .int .u8 c, .int .u8 d, .int .u8 e, .int .u8 f], .int .u8 mm, .int .u8 at_, .int .u8 by_, .bool true, .bool true] w fun e w' => e = .returned (.bool true) ∧ Below w.heap.size w w' := by
  obtain ⟨i0, hi0, hz0, hz1, hz2⟩ := info_parts (show (Try.prog.info? 5).map (fun i => (i.zero, i.size, i.bytes)) = some (some (.int .u8 0), 1, 1) by kernel_rfl)
  obtain ⟨sh, hsh⟩ : ∃ sh, sh = shOf a b c d e f := ⟨_, rfl⟩
  obtain ⟨kk, hkk⟩ : ∃ kk : Int, kk = (mm : Int) % 6 := ⟨_, rfl⟩
  have hok : LbOk sh kk := by rw [hsh]; exact shOf_ok h8 (by omega)
  have hbb : 32 ≤ sh.b ∧ sh.b ≤ 40 := by rw [hsh]; exact (shOf_m h8).2.1
  have hxl := sect_len hok
  have hxo := sect_oct sh kk
  have htel := fun W => tellsR sh kk hok W
  obtain ⟨xs, hxs⟩ : ∃ xs, xs = sect sh kk := ⟨_, rfl⟩
  rw [← hxs] at hxl hxo htel
  obtain ⟨N, hN⟩ : ∃ N, N = xs.length := ⟨_, rfl⟩
  have hx40 : 32 ≤ N := by omega
  have hx200 : N ≤ 40 := by omega
  obtain ⟨i, hi⟩ : ∃ i, i = tix at_ N := ⟨_, rfl⟩
  have hil : i < N := by rw [hi]; unfold tix; split; omega; exact Nat.mod_lt _ (by omega)
  obtain ⟨x, hx⟩ : ∃ x, xs[i]? = some x := ⟨_, List.getElem?_eq_getElem (by omega)⟩
  have hxx := hxo x (List.mem_of_getElem? hx)
  obtain ⟨x, rfl⟩ := Int.eq_ofNat_of_zero_le hxx.1
  have hxor := u8_xor_nat x by_ (by omega) hb8
  have hy : x ^^^ by_ < 256 := Nat.xor_lt_two_pow (n := 8) (by omega) (by omega)
  obtain ⟨y, hyy⟩ : ∃ y, y = x ^^^ by_ := ⟨_, rfl⟩
  rw [← hyy] at hxor hy
  obtain ⟨ts, hts⟩ : ∃ ts, ts = xs.set i (y : Int) := ⟨_, rfl⟩
  have htl : ts.length = N := by rw [hts, List.length_set, hN]
  have hto : Oct ts := by
    rw [hts]
    intro q hq
    rcases List.mem_or_eq_of_mem_set hq with h | h
    · exact hxo q h
    · omega
  have hcell : ∀ W g, Rd W (some ⟨g, 0, none⟩) (byv xs) → W.cell? ⟨g, i, none⟩ = some (.int .u8 x) := fun W g hW => by
    obtain ⟨_, e, h⟩ := hW i (.int .u8 x) (by simp [byv, hx])
    injection e with e
    subst e
    rw [add_zero_addr, Nat.zero_add] at h
    exact h
  have HCELL := Lib.hid hcell
  have HTS := Lib.hid hts
  rw [← hN] at htel
  have HTEL := Lib.hid htel
  have HX := Lib.hid hsh
  have H8 := Lib.hid h8
  have hil2 : (i : Int) < (N : Int) := by omega
  have hN2 : (N : Int) ≤ 40 := by omega
  have hNnz : ((N : Int) == 0) = false := by simp; omega
  have hw8 : IntKind.i64.wrap (at_ : Int) = at_ := IntWalk.i64_in _ (by omega)
  have hm6 : (mm : Int) % 6 = kk := hkk.symm
  have hwm : IntKind.i64.wrap kk = kk := IntWalk.i64_in _ (by omega)
  obtain ⟨q1, hq1⟩ : ∃ q1, q1 = at_ % N := ⟨_, rfl⟩
  have hmod : (at_ : Int) % (N : Int) = (q1 : Int) := by rw [hq1]; rfl
  have hmodt : (at_ : Int).tmod (N : Int) = (q1 : Int) := by rw [Int.tmod_eq_emod_of_nonneg (by omega), hmod]
  have hq40 : q1 < 40 := by rw [hq1]; have := Nat.mod_lt at_ (show N > 0 by omega); omega
  have HX40 := Lib.hid hx40
  have HIL := Lib.hid hil
  have HAW := Lib.hid (awake_ok (w.alloc (.cells #[.int .u8 a, .int .u8 b, .int .u8 c, .int .u8 d, .int .u8 e, .int .u8 f] 23)))
  have HB0 := Lib.hid ((Below.refl w.heap.size w).alloc (Nat.le_refl _) (.cells #[.int .u8 a, .int .u8 b, .int .u8 c, .int .u8 d, .int .u8 e, .int .u8 f] 23))
  have HS0 := Lib.hid (Blk.new w 23 #[.int .u8 a, .int .u8 b, .int .u8 c, .int .u8 d, .int .u8 e, .int .u8 f])
  obtain ⟨ys, hys⟩ : ∃ ys, ys = ts.take 18 := ⟨_, rfl⟩
  obtain ⟨zs, hzs⟩ : ∃ zs, zs = ts.drop 22 := ⟨_, rfl⟩
  have hyl : ys.length = 18 := by rw [hys, List.length_take]; omega
  have hzl : zs.length = N - 22 := by rw [hzs, List.length_drop, htl]
  have hyo : Oct ys := by rw [hys]; exact hto.take _
  have hzo : Oct zs := by rw [hzs]; exact hto.drop _
  have hseal := fun W A c (hW : Rd W A (byv ts)) => sealed_ok A c ys W (by rw [hys, byv_take]; exact hW.take _) (by omega) hyo
  rw [hyl] at hseal
  have hsl : (sealL ys).length = 22 := by rw [sealL_len]; omega
  have hfo : Oct (sealL ys ++ zs) := (sealL_oct hyo).app hzo
  have hfl : (sealL ys ++ zs).length = N := by rw [List.length_append, hsl]; omega
  have HZS := Lib.hid hzs
  have HZL := Lib.hid hzl
  have HSN : Hid (22 + zs.length = N) := Lib.hid (by omega)
  have HTL := Lib.hid htl
  have HSEAL := Lib.hid hseal
  have HSL := Lib.hid hsl
  have hcl : zs.length ≤ 18 := by omega
  obtain ⟨N1, hN1⟩ : ∃ N1, N1 = N - 1 := ⟨_, rfl⟩
  have hNI : (N : Int) - 1 = N1 := by omega
  have wn1 : IntKind.i64.wrap (N1 : Int) = N1 := IntWalk.i64_in _ (by omega)
  have hNN : N1 ≤ N := by omega
  have hNN2 : (N1 : Int) ≤ (N : Int) := by omega
  have hgl : ((sealL ys ++ zs).take N1).length = N1 := by rw [List.length_take, hfl]; omega
  obtain ⟨m, b', s, t, n, l, k, cd, hbo⟩ := both_of ((sealL ys ++ zs).take N1) (by omega) (hfo.take _)
  rw [hgl] at hbo
  have HBO := Lib.hid hbo
  have hq := fun W => lb_eql m b' s t n l k W
  have hpar : (at_ % 2 = 0 ∧ at_ / 2 % 18 = i) ∨ (at_ % 2 = 1 ∧ i = q1) := by
    rw [hi, hq1]
    unfold tix
    split
    · exact .inl ⟨by omega, rfl⟩
    · exact .inr ⟨by omega, rfl⟩
  clear h8 hok hbb hxl hxo hxs htel hsh hkk hN hil hx hxx hyy hts htl hto hcell hi hq1 hfo hfl hbo hys hzs hyl hzl hyo hzo hseal hsl hN1 hgl
  rcases hpar with ⟨hp, hq2⟩ | ⟨hp, hq2⟩
  · have hp2 : (at_ : Int) % 2 = 0 := by omega
    have hq3 : (at_ : Int) / 2 % 18 = (i : Int) := by omega
    have hi18 : (i : Int) < 18 := by omega
    clear hp hq2
    go_enter Try.func6, Try.ntmps6
    go_wp2_with (first
      | (go_at_call 7; (with_reducible refine HAW.out.mono ?_); rintro e w1 ⟨rfl, hb1⟩; have HB1 := Lib.hid (HB0.out.trans (hb1.mono HB0.out.size)); obtain ⟨p0, p1, p2, p3, p4, p5⟩ := (HS0.out.later hb1).cells6; clear hb1)
      | (go_at_call 8; (with_reducible refine (shapeL a b c d e f sh HX.out H8.out _).mono ?_); rintro e w2 ⟨rfl, hb2⟩; have HB2 := Lib.hid (HB1.out.trans (hb2.mono HB1.out.size)); clear hb2)
      | (go_at_call 12; (with_reducible refine (HTEL.out _).mono ?_); rintro e w3 ⟨⟨r3, rfl, hown3⟩, hb3⟩; obtain ⟨g3, c3, cur3, rfl, hg3, -, -, -⟩ := own_block hown3 (by have := HX40.out; omega); have hr3 := Rd.of_own hown3; have hq3 := HCELL.out _ _ hr3; obtain ⟨ho4, hb4, hf4⟩ := own_turn (y := (y : Int)) hown3 HIL.out; rw [← HTS.out] at ho4; obtain ⟨A4', c4', e4, hr4, hc4, -⟩ := own_formc ho4; injection e4 with e41 e42 e43; subst e41 e43; clear e42; have HR4 := Lib.hid hr4; have HC4 := Lib.hid hc4; have HB3 := Lib.hid (HB2.out.trans (hb3.mono HB2.out.size)); have HB4 := Lib.hid (HB3.out.trans (hb4.mono HB2.out.size)); clear hown3 hb3 hr3 ho4 hb4 hr4 hc4)
      | fail "no")
    generalize w3.setCell ⟨g3, i, none⟩ (.int .u8 (y : Int)) = W4 at HR4 HB4 ⊢
    have hcut4 := fun W => cut_lo_ 31 1 Try.underlying31 (fun _ => by kernel_rfl) (some ⟨g3, 0, none⟩) N c3 18 18 rfl (by have := HC4.out; have := HX40.out; omega) W
    obtain ⟨A2', hA2⟩ : ∃ A2', A2' = (if c3 = 22 then some (⟨g3, 0, none⟩ : Addr) else (some (⟨g3, 0, none⟩ : Addr)).map (·.add (22 * 1))) := ⟨_, rfl⟩
    have hcut := fun W => cut_hi_ 31 1 Try.underlying31 (fun _ => by kernel_rfl) (some ⟨g3, 0, none⟩) N c3 22 22 rfl (by have := HX40.out; omega) W
    rw [← hA2, ← HZL.out] at hcut
    have hR2 : ∀ W, Rd W (some ⟨g3, 0, none⟩) (byv ts) → Rd W A2' (byv zs) := fun W hW => by
      have := hW.cutg (size := 1) (c := c3) (n := 22) (len := N) (by simp [byv_len, HTL.out]) HC4.out
      rw [← hA2, Nat.mul_one, ← byv_drop, ← HZS.out] at this
      exact this
    have HR2x := Lib.hid hR2
    clear hA2 hR2
    have HRAd : Hid (Rd W4.drew (some ⟨g3, 0, none⟩) (byv ts)) := Lib.hid (HR4.out.later (below_drewN (Below.refl _ _) 1))
    have HB4d : Hid (Below w.heap.size w W4.drew) := Lib.hid (below_drewN HB4.out 1)
    have hLN3 : (22 : Int) ≤ (N : Int) := by have := HX40.out; omega
    have hLc3 : (22 : Int) ≤ (c3 : Int) := by have := HX40.out; have := HC4.out; omega
    go_region_held3 (fun _ => True) (exact trivial)
      (first
        | (go_at_call 13; (with_reducible refine (HSEAL.out _ _ _ HRAd.out).mono ?_); rintro e w5 ⟨r5, rfl, hown5, hb5⟩; have HB5 := Lib.hid (HB4d.out.trans (hb5.mono HB4d.out.size)); obtain ⟨A5, c5, rfl, -, -⟩ := own_form hown5; rw [HSL.out] at hown5 ⊢; have HO5 := Lib.hid (ownsRow_base hown5 HB4d.out.size); have HR5' := Lib.hid (HR2x.out _ (HRAd.out.later hb5)); clear hown5 hb5)
        | (refine step_append_any _ (by rfl) _ _ 31 (by rfl) w.heap.size 5 i0 (.int .u8 0) 1 1 Try.underlying31 hi0 hz0 hz1 hz2 rfl (by decide) (.slice A5 22 c5) 22 (byv (sealL ys)) (by rfl) HO5.out A2' zs.length (c3 - 22) (byv zs) (by rfl) (by simp [byv_len]) HR5'.out (byv_one _) (by unfold maxLen; omega) (by omega) HB5.out.size ?_; intro v6 w6 hown6 hg6 hat6; have HB6 := Lib.hid (HB5.out.grown hg6 HB5.out.size (fun b hb => (HO5.out.lt b hb).1)); rw [← byv_app, HSN.out] at hown6; obtain ⟨A6, c6, rfl, hr6, hc6, -⟩ := own_formc hown6; have HR6 := Lib.hid hr6; have HC6 := Lib.hid hc6; clear hown6 hg6 hat6 hr6 hc6)
        | fail "no arm")
    have hcn := fun W => cut_lo_ 31 1 Try.underlying31 (fun _ => by kernel_rfl) A6 N c6 N1 (N1 : Int) rfl (by have := HC6.out; omega) W
    have HR7 : Hid (Rd w6 A6 (byv ((sealL ys ++ zs).take N1))) := Lib.hid (by rw [byv_take]; exact HR6.out.take_ _)
    have HC7 : Hid (N1 ≤ c6) := Lib.hid (by have := HC6.out; omega)
    go_wp2_with (first
      | (go_at_call 11; (with_reducible refine (HBO.out.dec _ _ _ HR7.out HC7.out).mono ?_); rintro e wd ⟨rfl, hbd⟩; have hbda := hbd.alloc hbd.size (.cells #[.int .i64 m, .int .i64 b', .int .i64 s, .int .i64 t, .int .i64 n, .int .i64 l, .int .i64 k] 29); have HBd := Lib.hid (HB6.out.trans (hbda.mono HB6.out.size)); have HXd := Lib.hid (Blk.new wd 29 #[.int .i64 m, .int .i64 b', .int .i64 s, .int .i64 t, .int .i64 n, .int .i64 l, .int .i64 k]); have HRd := Lib.hid (HR7.out.later hbda); clear hbd hbda)
      | (go_at_call 14; (with_reducible refine (HBO.out.rea _ _ _ HRd.out HC7.out).mono ?_); rintro e wr ⟨rfl, hbr⟩; have hbra := hbr.alloc hbr.size (.cells #[.int .i64 m, .int .i64 b', .int .i64 s, .int .i64 t, .int .i64 n, .int .i64 l, .int .i64 k] 29); have HBr := Lib.hid (HBd.out.trans (hbra.mono HBd.out.size)); obtain ⟨y0, y1, y2, y3, y4, y5, y6⟩ := (Blk.new wr 29 #[.int .i64 m, .int .i64 b', .int .i64 s, .int .i64 t, .int .i64 n, .int .i64 l, .int .i64 k]).cells7; obtain ⟨x0, x1, x2, x3, x4, x5, x6⟩ := (HXd.out.later hbra).cells7; clear hbr hbra)
      | fail "no")
    go_ret
    exact ⟨by simp, HBr.out⟩
  · have hp2 : (at_ : Int) % 2 = 1 := by omega
    subst hq2
    clear hp
    go_enter Try.func6, Try.ntmps6
    go_wp2_with (first
      | (go_at_call 7; (with_reducible refine HAW.out.mono ?_); rintro e w1 ⟨rfl, hb1⟩; have HB1 := Lib.hid (HB0.out.trans (hb1.mono HB0.out.size)); obtain ⟨p0, p1, p2, p3, p4, p5⟩ := (HS0.out.later hb1).cells6; clear hb1)
      | (go_at_call 8; (with_reducible refine (shapeL a b c d e f sh HX.out H8.out _).mono ?_); rintro e w2 ⟨rfl, hb2⟩; have HB2 := Lib.hid (HB1.out.trans (hb2.mono HB1.out.size)); clear hb2)
      | (go_at_call 12; (with_reducible refine (HTEL.out _).mono ?_); rintro e w3 ⟨⟨r3, rfl, hown3⟩, hb3⟩; obtain ⟨g3, c3, cur3, rfl, hg3, -, -, -⟩ := own_block hown3 (by have := HX40.out; omega); have hr3 := Rd.of_own hown3; have hq3 := HCELL.out _ _ hr3; obtain ⟨ho4, hb4, hf4⟩ := own_turn (y := (y : Int)) hown3 HIL.out; rw [← HTS.out] at ho4; obtain ⟨A4', c4', e4, hr4, hc4, -⟩ := own_formc ho4; injection e4 with e41 e42 e43; subst e41 e43; clear e42; have HR4 := Lib.hid hr4; have HC4 := Lib.hid hc4; have HB3 := Lib.hid (HB2.out.trans (hb3.mono HB2.out.size)); have HB4 := Lib.hid (HB3.out.trans (hb4.mono HB2.out.size)); clear hown3 hb3 hr3 ho4 hb4 hr4 hc4)
      | fail "no")
    generalize w3.setCell ⟨g3, i, none⟩ (.int .u8 (y : Int)) = W4 at HR4 HB4 ⊢
    have hcut4 := fun W => cut_lo_ 31 1 Try.underlying31 (fun _ => by kernel_rfl) (some ⟨g3, 0, none⟩) N c3 18 18 rfl (by have := HC4.out; have := HX40.out; omega) W
    obtain ⟨A2', hA2⟩ : ∃ A2', A2' = (if c3 = 22 then some (⟨g3, 0, none⟩ : Addr) else (some (⟨g3, 0, none⟩ : Addr)).map (·.add (22 * 1))) := ⟨_, rfl⟩
    have hcut := fun W => cut_hi_ 31 1 Try.underlying31 (fun _ => by kernel_rfl) (some ⟨g3, 0, none⟩) N c3 22 22 rfl (by have := HX40.out; omega) W
    rw [← hA2, ← HZL.out] at hcut
    have hR2 : ∀ W, Rd W (some ⟨g3, 0, none⟩) (byv ts) → Rd W A2' (byv zs) := fun W hW => by
      have := hW.cutg (size := 1) (c := c3) (n := 22) (len := N) (by simp [byv_len, HTL.out]) HC4.out
      rw [← hA2, Nat.mul_one, ← byv_drop, ← HZS.out] at this
      exact this
    have HR2x := Lib.hid hR2
    clear hA2 hR2
    have HRAd : Hid (Rd W4.drew (some ⟨g3, 0, none⟩) (byv ts)) := Lib.hid (HR4.out.later (below_drewN (Below.refl _ _) 1))
    have HB4d : Hid (Below w.heap.size w W4.drew) := Lib.hid (below_drewN HB4.out 1)
    have hLN3 : (22 : Int) ≤ (N : Int) := by have := HX40.out; omega
    have hLc3 : (22 : Int) ≤ (c3 : Int) := by have := HX40.out; have := HC4.out; omega
    go_region_held3 (fun _ => True) (exact trivial)
      (first
        | (go_at_call 13; (with_reducible refine (HSEAL.out _ _ _ HRAd.out).mono ?_); rintro e w5 ⟨r5, rfl, hown5, hb5⟩; have HB5 := Lib.hid (HB4d.out.trans (hb5.mono HB4d.out.size)); obtain ⟨A5, c5, rfl, -, -⟩ := own_form hown5; rw [HSL.out] at hown5 ⊢; have HO5 := Lib.hid (ownsRow_base hown5 HB4d.out.size); have HR5' := Lib.hid (HR2x.out _ (HRAd.out.later hb5)); clear hown5 hb5)
        | (refine step_append_any _ (by rfl) _ _ 31 (by rfl) w.heap.size 5 i0 (.int .u8 0) 1 1 Try.underlying31 hi0 hz0 hz1 hz2 rfl (by decide) (.slice A5 22 c5) 22 (byv (sealL ys)) (by rfl) HO5.out A2' zs.length (c3 - 22) (byv zs) (by rfl) (by simp [byv_len]) HR5'.out (byv_one _) (by unfold maxLen; omega) (by omega) HB5.out.size ?_; intro v6 w6 hown6 hg6 hat6; have HB6 := Lib.hid (HB5.out.grown hg6 HB5.out.size (fun b hb => (HO5.out.lt b hb).1)); rw [← byv_app, HSN.out] at hown6; obtain ⟨A6, c6, rfl, hr6, hc6, -⟩ := own_formc hown6; have HR6 := Lib.hid hr6; have HC6 := Lib.hid hc6; clear hown6 hg6 hat6 hr6 hc6)
        | fail "no arm")
    have hcn := fun W => cut_lo_ 31 1 Try.underlying31 (fun _ => by kernel_rfl) A6 N c6 N1 (N1 : Int) rfl (by have := HC6.out; omega) W
    have HR7 : Hid (Rd w6 A6 (byv ((sealL ys ++ zs).take N1))) := Lib.hid (by rw [byv_take]; exact HR6.out.take_ _)
    have HC7 : Hid (N1 ≤ c6) := Lib.hid (by have := HC6.out; omega)
    go_wp2_with (first
      | (go_at_call 11; (with_reducible refine (HBO.out.dec _ _ _ HR7.out HC7.out).mono ?_); rintro e wd ⟨rfl, hbd⟩; have hbda := hbd.alloc hbd.size (.cells #[.int .i64 m, .int .i64 b', .int .i64 s, .int .i64 t, .int .i64 n, .int .i64 l, .int .i64 k] 29); have HBd := Lib.hid (HB6.out.trans (hbda.mono HB6.out.size)); have HXd := Lib.hid (Blk.new wd 29 #[.int .i64 m, .int .i64 b', .int .i64 s, .int .i64 t, .int .i64 n, .int .i64 l, .int .i64 k]); have HRd := Lib.hid (HR7.out.later hbda); clear hbd hbda)
      | (go_at_call 14; (with_reducible refine (HBO.out.rea _ _ _ HRd.out HC7.out).mono ?_); rintro e wr ⟨rfl, hbr⟩; have hbra := hbr.alloc hbr.size (.cells #[.int .i64 m, .int .i64 b', .int .i64 s, .int .i64 t, .int .i64 n, .int .i64 l, .int .i64 k] 29); have HBr := Lib.hid (HBd.out.trans (hbra.mono HBd.out.size)); obtain ⟨y0, y1, y2, y3, y4, y5, y6⟩ := (Blk.new wr 29 #[.int .i64 m, .int .i64 b', .int .i64 s, .int .i64 t, .int .i64 n, .int .i64 l, .int .i64 k]).cells7; obtain ⟨x0, x1, x2, x3, x4, x5, x6⟩ := (HXd.out.later hbra).cells7; clear hbr hbra)
      | fail "no")
    go_ret
    exact ⟨by simp, HBr.out⟩
theorem superSpoilt_true (a b c d e f m at_ by_ : Int) (sb cb : Bool) (w : World) (h0 : (Lit.int .u8 a).wf = true) (h1 : (Lit.int .u8 b).wf = true) (h2 : (Lit.int .u8 c).wf = true) (h3 : (Lit.int .u8 d).wf = true) (h4 : (Lit.int .u8 e).wf = true) (h5 : (Lit.int .u8 f).wf = true) (h6 : (Lit.int .u8 m).wf = true) (h7 : (Lit.int .u8 at_).wf = true) (h9 : (Lit.int .u8 by_).wf = true) :
    Calls Try.prog 6 #[.agg #[.int .u8 a, .int .u8 b, .int .u8 c, .int .u8 d, .int .u8 e, .int .u8 f], .int .u8 m, .int .u8 at_, .int .u8 by_, .bool sb, .bool cb] w fun e w' => e = .returned (.bool true) ∧ Below w.heap.size w w' := by
  have h8 := ok8_of h0 h1 h2 h3 h4 h5
  have g1 := u8_in_ h6
  have g2 := u8_in_ h7
  have g3 := u8_in_ h9
  obtain ⟨m, rfl⟩ := Int.eq_ofNat_of_zero_le g1.1
  obtain ⟨at_, rfl⟩ := Int.eq_ofNat_of_zero_le g2.1
  obtain ⟨by_, rfl⟩ := Int.eq_ofNat_of_zero_le g3.1
  rcases sb with _ | _ <;> rcases cb with _ | _
  · exact spoilt_walk00 a b c d e f m at_ by_ w h8 (by omega) (by omega) (by omega)
  · exact spoilt_walk01 a b c d e f m at_ by_ w h8 (by omega) (by omega) (by omega)
  · exact spoilt_walk10 a b c d e f m at_ by_ w h8 (by omega) (by omega) (by omega)
  · exact spoilt_walk11 a b c d e f m at_ by_ w h8 (by omega) (by omega) (by omega)
end Go.Proofs.Ytcgodkahkgpojaa
