/- The walks of Awake, worth, the law's Better, VictimBetter. No further condition. -/
import Derived.Test.YtlkfinkgekkcfaaVc2
namespace Go.Proofs.Ytlkfinkgekkcfaa
open Go.RowKit
attribute [local go_sem ↓] Go.wp_at_zero Go.wp_at_succ

set_option maxHeartbeats 1600000 in
theorem awake_ok (w : World) : Calls Try.prog 8 #[] w fun e w' => e = .returned (.bool true) ∧ Below w.heap.size w w' := by
  have e1 : chosen 0 4 9 1 [(2, 0, 1), (0, 0, 0), (2, 0, 1)] = 2 := by decide
  have e2 : chosen 1 4 9 0 [(2, 0, 1), (0, 0, 0), (2, 0, 1)] = 0 := by decide
  have hwf : ∀ s ∈ [((2, 0, 1) : Sg), (0, 0, 0), (2, 0, 1)], Wf s := by
    intro s hs
    simp only [List.mem_cons, List.not_mem_nil, or_false] at hs
    unfold Wf
    rcases hs with rfl | rfl | rfl <;> decide
  have E1 := Lib.hid e1
  have E2 := Lib.hid e2
  clear e1 e2
  go_enter Try.func8, Try.ntmps8
  go_wp2_with fail
  refine (new_ok 3 _ (by decide)).mono ?_
  rintro e w1 ⟨rfl, ht1, hb1, hz1⟩
  go_wp2_with fail
  refine (seal_any (w.heap.size + 1) w.heap.size 0 1 [(0, 0, 0), (0, 0, 0), (0, 0, 0)] _ ht1).mono ?_
  rintro e w2 ⟨rfl, ht2⟩
  have ht2' : Tab w2 (w.heap.size + 1) w.heap.size [(2, 0, 1), (0, 0, 0), (0, 0, 0)] := ht2.tab
  go_wp2_with fail
  refine (seal_any (w.heap.size + 1) w.heap.size 2 1 _ _ ht2').mono ?_
  rintro e w3 ⟨rfl, ht3⟩
  have ht3' : Tab w3 (w.heap.size + 1) w.heap.size [(2, 0, 1), (0, 0, 0), (2, 0, 1)] := ht3.tab
  go_wp2_with fail
  refine (choose_ok 0 (w.heap.size + 1) w.heap.size 4 9 1 _ _ ht3' hwf (by decide) (by decide)).mono ?_
  rintro e w4 ⟨rfl, hb4⟩
  rw [E1.out]
  have ht4 := ht3'.later hb4
  go_wp2_with fail
  refine (choose_ok 1 (w.heap.size + 1) w.heap.size 4 9 0 _ _ ht4 hwf (by decide) (by decide)).mono ?_
  rintro e w5 ⟨rfl, hb5⟩
  rw [E2.out]
  go_wp2
  go_ret
  refine ⟨rfl, ?_⟩
  have b3 : Below w.heap.size w w3 := (hb1.trans (Fr.toBelow ht2.fr hb1.size fun b hb e => by omega)).trans (Fr.toBelow ht3.fr (Nat.le_trans hb1.size ht2.fr.size) fun b hb e => by omega)
  exact (b3.trans (hb4.mono b3.size)).trans (hb5.mono (Nat.le_trans b3.size hb4.size))

attribute [local go_sem] go_max2 go_min2 go_max_two go_min_two
set_option maxHeartbeats 1600000 in
theorem worth_ok (s : Sg) (blocks now : Int) (w : World) (h : 0 ≤ s.2.2) (h2 : s.2.2 ≤ 18446744073709551615) (k : 0 ≤ now) (k2 : now ≤ 18446744073709551615) :
    Calls Try.prog 21 #[.agg #[.int .i64 s.1, .int .i64 s.2.1, .int .u64 s.2.2], .int .i64 blocks, .int .u64 now] w fun e w' => e = .returned (.tuple #[.int .u64 (up s (clip blocks) now), .int .u64 (dn s (clip blocks))]) ∧ Below w.heap.size w w' := by
  have HB := Lib.hid ((Below.refl w.heap.size w).alloc (Nat.le_refl _) (.cells #[.int .i64 s.1, .int .i64 s.2.1, .int .u64 s.2.2] 25))
  obtain ⟨n, hn⟩ : ∃ n, n = clip blocks := ⟨_, rfl⟩
  rw [← hn]
  obtain ⟨n0, n1⟩ := clip_in blocks
  rw [← hn] at n0 n1
  obtain ⟨L, hL⟩ : ∃ L, L = lives s n := ⟨_, rfl⟩
  obtain ⟨l0, l1⟩ := lives_in s n n0
  rw [← hL] at l0 l1
  have e1 : mxI (mnI blocks 2048) 0 = n := by rw [hn]; unfold mxI mnI clip; split <;> split <;> (try split) <;> omega
  have e2 : mxI (mnI s.2.1 n) 0 = L := by rw [hL]; unfold mxI mnI lives; split <;> split <;> (try split) <;> omega
  have ua := up_in s n now n0 n1
  have HU : Hid (∀ A, A = ageOf s now → IntKind.u64.wrap ((n - L) * A) = up s n now ∧ n + L = dn s n) := by
    intro A hA
    subst hA
    rw [hL]
    exact ⟨IntWalk.u64_in _ ⟨ua.1, by have := ua.2; unfold up at this; omega⟩, rfl⟩
  clear hn hL ua
  go_enter Try.func21, Try.ntmps21
  rcases Int.lt_or_le s.2.2 now with h3 | h3
  · rcases Int.lt_or_le 1099511627776 (now - s.2.2) with h4 | h4
    · go_wp2
      go_ret2
      obtain ⟨u1, u2⟩ := HU.out 1099511627776 (by unfold ageOf; rw [if_neg (by omega), if_pos h4])
      rw [IntWalk.u64_in _ (by omega)] at u1
      exact ⟨by rw [← u1, ← u2]; rfl, HB.out⟩
    · go_wp2
      go_ret2
      obtain ⟨u1, u2⟩ := HU.out (now - s.2.2) (by unfold ageOf; rw [if_neg (by omega), if_neg (by omega)])
      exact ⟨by rw [← u1, ← u2]; simp, HB.out⟩
  · go_wp2
    go_ret2
    obtain ⟨u1, u2⟩ := HU.out 0 (by unfold ageOf; split <;> (try split) <;> omega)
    rw [Int.mul_zero, IntWalk.u64_in _ (by omega)] at u1
    exact ⟨by rw [← u1, ← u2]; simp, HB.out⟩

theorem hi_zero (x y : Nat) (hx : x ≤ 2251799813685248) (hy : y ≤ 4096) :
    IntKind.u64.wrap (IntKind.u64.wrap (IntKind.u64.wrap ((x : Int) / 4294967296 * ((y : Int) / 4294967296)) + IntKind.u64.wrap (IntKind.u64.wrap ((x : Int) / 4294967296 * bits BinOp.and IntKind.u64 (y : Int) 4294967295) + IntKind.u64.wrap (bits BinOp.and IntKind.u64 (x : Int) 4294967295 * bits BinOp.and IntKind.u64 (y : Int) 4294967295) / 4294967296) / 4294967296) +
      IntKind.u64.wrap (bits BinOp.and IntKind.u64 (IntKind.u64.wrap (IntKind.u64.wrap ((x : Int) / 4294967296 * bits BinOp.and IntKind.u64 (y : Int) 4294967295) + IntKind.u64.wrap (bits BinOp.and IntKind.u64 (x : Int) 4294967295 * bits BinOp.and IntKind.u64 (y : Int) 4294967295) / 4294967296)) 4294967295 + IntKind.u64.wrap (bits BinOp.and IntKind.u64 (x : Int) 4294967295 * ((y : Int) / 4294967296))) / 4294967296) = 0 := by
  have hy0 : (y : Int) / 4294967296 = 0 := by omega
  have hya : bits BinOp.and IntKind.u64 (y : Int) 4294967295 = y := by rw [and_low32 _ (by omega) (by omega)]; omega
  have hxa : bits BinOp.and IntKind.u64 (x : Int) 4294967295 = (x : Int) % 4294967296 := and_low32 _ (by omega) (by omega)
  rw [hy0, hya, hxa, Int.mul_zero, Int.mul_zero, IntWalk.u64_in 0 (by omega)]
  have p1 := mul_in (a := (x : Int) / 4294967296) (b := (y : Int)) (A := 524288) (B := 4096) (by omega) (by omega) (by omega) (by omega)
  have p2 := mul_in (a := (x : Int) % 4294967296) (b := (y : Int)) (A := 4294967296) (B := 4096) (by omega) (by omega) (by omega) (by omega)
  generalize (x : Int) / 4294967296 * (y : Int) = R at *
  generalize (x : Int) % 4294967296 * (y : Int) = Q at *
  rw [IntWalk.u64_in R (by omega), IntWalk.u64_in Q (by omega), IntWalk.u64_in (R + Q / 4294967296) (by omega), and_low32 _ (by omega) (by omega)]
  rw [IntWalk.u64_in (0 + _) (by omega), IntWalk.u64_in (_ + 0) (by omega), IntWalk.u64_in _ (by omega)]
  omega
theorem lo_mul (x y : Nat) (hx : x ≤ 2251799813685248) (hy : y ≤ 4096) : IntKind.u64.wrap ((x : Int) * (y : Int)) = ((x * y : Nat) : Int) := by
  have p := mul_in (a := (x : Int)) (b := (y : Int)) (A := 2251799813685248) (B := 4096) (by omega) (by omega) (by omega) (by omega)
  rw [IntWalk.u64_in _ (by omega), Int.natCast_mul]
theorem ret_two {a b c d : Int} (h : a = c) (k : b = d) : Ending.returned (.tuple #[.int .u64 a, .int .u64 b]) = .returned (.tuple #[.int .u64 c, .int .u64 d]) := by rw [h, k]
set_option maxHeartbeats 1600000 in
theorem mul_ok (x y : Nat) (w : World) (hx : x ≤ 2251799813685248) (hy : y ≤ 4096) :
    Calls Try.prog 22 #[.int .u64 x, .int .u64 y] w fun e w' => e = .returned (.tuple #[.int .u64 0, .int .u64 ((x * y : Nat) : Int)]) ∧ w = w' := by
  go_enter Try.func22, Try.ntmps22
  go_wp2
  go_ret2
  exact ⟨ret_two (hi_zero x y hx hy) (lo_mul x y hx hy), rfl⟩

/-! ### the law's Better -/
theorem lbetter_no (p : Int) (a b : Sg) (blocks now : Int) (w : World) (hp : p ≠ 1) :
    Calls Try.prog 15 #[.int .i64 p, .agg #[.int .i64 a.1, .int .i64 a.2.1, .int .u64 a.2.2], .agg #[.int .i64 b.1, .int .i64 b.2.1, .int .u64 b.2.2], .int .i64 blocks, .int .u64 now] w
      fun e w' => e = .returned (.bool (better p a b blocks now)) ∧ Below w.heap.size w w' := by
  have hd : (p == 1) = false := by simp [hp]
  have HB := Lib.hid (((Below.refl w.heap.size w).alloc (Nat.le_refl _) (.cells #[.int .i64 a.1, .int .i64 a.2.1, .int .u64 a.2.2] 25)).alloc (by simp) (.cells #[.int .i64 b.1, .int .i64 b.2.1, .int .u64 b.2.2] 25))
  obtain ⟨r, hr⟩ : ∃ r, r = better p a b blocks now := ⟨_, rfl⟩
  rw [← hr]
  have hr2 : r = decide (a.2.1 < b.2.1) := by rw [hr]; unfold better; rw [if_neg hp]
  have HR := Lib.hid hr2
  clear hr hr2
  go_enter Try.func15, Try.ntmps15
  go_wp2
  go_ret
  exact ⟨by rw [HR.out]; rfl, HB.out⟩
set_option maxHeartbeats 3200000 in
theorem lbetter_yes (a b : Sg) (blocks now : Int) (w : World) (ha : Wf a) (hb : Wf b) (k : 0 ≤ now) (k2 : now ≤ 18446744073709551615) :
    Calls Try.prog 15 #[.int .i64 1, .agg #[.int .i64 a.1, .int .i64 a.2.1, .int .u64 a.2.2], .agg #[.int .i64 b.1, .int .i64 b.2.1, .int .u64 b.2.2], .int .i64 blocks, .int .u64 now] w
      fun e w' => e = .returned (.bool (better 1 a b blocks now)) ∧ Below w.heap.size w w' := by
  have hB := ((Below.refl w.heap.size w).alloc (Nat.le_refl _) (.cells #[.int .i64 a.1, .int .i64 a.2.1, .int .u64 a.2.2] 25)).alloc (by simp) (.cells #[.int .i64 b.1, .int .i64 b.2.1, .int .u64 b.2.2] 25)
  have hkb : Blk ((w.alloc (.cells #[.int .i64 a.1, .int .i64 a.2.1, .int .u64 a.2.2] 25)).alloc (.cells #[.int .i64 b.1, .int .i64 b.2.1, .int .u64 b.2.2] 25)) (w.heap.size + 1) 25 #[.int .i64 b.1, .int .i64 b.2.1, .int .u64 b.2.2] := Blk.new_ _ _ _ (by simp)
  obtain ⟨n, hn⟩ : ∃ n, n = clip blocks := ⟨_, rfl⟩
  obtain ⟨n0, n1⟩ := clip_in blocks
  rw [← hn] at n0 n1
  have hbet : better 1 a b blocks now = decide (up b n now * dn a n < up a n now * dn b n) := by unfold better; rw [if_pos rfl, hn]
  obtain ⟨r, hr⟩ : ∃ r, r = better 1 a b blocks now := ⟨_, rfl⟩
  rw [← hr]
  have HR := Lib.hid (hr.trans hbet)
  have wa := fun W => worth_ok a blocks now W ha.1 ha.2 k k2
  have wb := fun W => worth_ok b blocks now W hb.1 hb.2 k k2
  rw [← hn] at wa wb
  obtain ⟨ua, hua⟩ := Int.eq_ofNat_of_zero_le (up_in a n now n0 n1).1
  obtain ⟨ub, hub⟩ := Int.eq_ofNat_of_zero_le (up_in b n now n0 n1).1
  obtain ⟨da, hda⟩ := Int.eq_ofNat_of_zero_le (dn_in a n n0 n1).1
  obtain ⟨db, hdb⟩ := Int.eq_ofNat_of_zero_le (dn_in b n n0 n1).1
  have b1 := (up_in a n now n0 n1).2
  have b2 := (up_in b n now n0 n1).2
  have b3 := (dn_in a n n0 n1).2
  have b4 := (dn_in b n n0 n1).2
  rw [hua, hda] at wa
  rw [hub, hdb] at wb
  rw [hua, hub, hda, hdb] at HR
  have HB := Lib.hid hB
  have m1 := fun W => mul_ok ua db W (by omega) (by omega)
  have m2 := fun W => mul_ok ub da W (by omega) (by omega)
  have q1 : ((ua * db : Nat) : Int) = (ua : Int) * db := Int.natCast_mul _ _
  have q2 : ((ub * da : Nat) : Int) = (ub : Int) * da := Int.natCast_mul _ _
  rw [← q1, ← q2] at HR
  clear hr hbet hn hB hua hub hda hdb b1 b2 b3 b4 q1 q2
  generalize ua * db = X at *
  generalize ub * da = Y at *
  go_enter Try.func15, Try.ntmps15
  go_wp2_with fail
  refine (wa _).mono ?_
  rintro e w1 ⟨rfl, hb1⟩
  obtain ⟨q3, q4, q5⟩ := (hkb.later hb1).cells3
  go_wp2_with fail
  refine (wb _).mono ?_
  rintro e w2 ⟨rfl, hb2⟩
  have hB2 := HB.out.trans ((hb1.trans (hb2.mono hb1.size)).mono HB.out.size)
  clear hb1 hb2 hkb
  go_wp2_with fail
  refine (m1 _).mono ?_
  rintro e w3 ⟨rfl, rfl⟩
  go_wp2_with fail
  refine (m2 _).mono ?_
  rintro e w4 ⟨rfl, rfl⟩
  go_wp2
  go_ret
  have hr3 : r = decide (Y < X) := by rw [HR.out]; simp
  exact ⟨by rw [hr3]; rfl, hB2⟩
theorem lbetter_any (p : Int) (a b : Sg) (blocks now : Int) (w : World) (ha : Wf a) (hb : Wf b) (k : 0 ≤ now) (k2 : now ≤ 18446744073709551615) :
    Calls Try.prog 15 #[.int .i64 p, .agg #[.int .i64 a.1, .int .i64 a.2.1, .int .u64 a.2.2], .agg #[.int .i64 b.1, .int .i64 b.2.1, .int .u64 b.2.2], .int .i64 blocks, .int .u64 now] w
      fun e w' => e = .returned (.bool (better p a b blocks now)) ∧ Below w.heap.size w w' := by
  by_cases hp : p = 1
  · subst hp; exact lbetter_yes a b blocks now w ha hb k k2
  · exact lbetter_no p a b blocks now w hp
theorem better_irr' (p : Int) (a : Sg) (blocks now : Int) : better p a a blocks now = false := by
  unfold better
  split
  · exact decide_eq_false (by omega)
  · exact decide_eq_false (by omega)

set_option maxHeartbeats 3200000 in
theorem victimBetter_walk (p : Int) (a b : Sg) (blocks now : Int) (w : World) (hp : -128 ≤ p) (hp2 : p ≤ 127) (ha : Wf a) (hb : Wf b) (k : 0 ≤ now) (k2 : now ≤ 18446744073709551615) :
    Calls Try.prog 6 #[.int .i8 p, .agg #[.int .i64 a.1, .int .i64 a.2.1, .int .u64 a.2.2], .agg #[.int .i64 b.1, .int .i64 b.2.1, .int .u64 b.2.2], .int .i64 blocks, .int .u64 now] w
      fun e w' => e = .returned (.bool true) ∧ Below w.heap.size w w' := by
  have hB := ((Below.refl w.heap.size w).alloc (Nat.le_refl _) (.cells #[.int .i64 a.1, .int .i64 a.2.1, .int .u64 a.2.2] 25)).alloc (by simp) (.cells #[.int .i64 b.1, .int .i64 b.2.1, .int .u64 b.2.2] 25)
  have hka := (Blk.new w 25 #[.int .i64 a.1, .int .i64 a.2.1, .int .u64 a.2.2]).alloc (.cells #[.int .i64 b.1, .int .i64 b.2.1, .int .u64 b.2.2] 25)
  have hkb : Blk ((w.alloc (.cells #[.int .i64 a.1, .int .i64 a.2.1, .int .u64 a.2.2] 25)).alloc (.cells #[.int .i64 b.1, .int .i64 b.2.1, .int .u64 b.2.2] 25)) (w.heap.size + 1) 25 #[.int .i64 b.1, .int .i64 b.2.1, .int .u64 b.2.2] := Blk.new_ _ _ _ (by simp)
  have hirr := better_irr' p a blocks now
  go_enter Try.func6, Try.ntmps6
  go_wp2_with fail
  refine (awake_ok _).mono ?_
  rintro e w1 ⟨rfl, hb1⟩
  have hB1 := (hB.trans (hb1.mono hB.size)).drew
  have hka1 := (hka.later hb1).drew
  have hkb1 := (hkb.later hb1).drew
  obtain ⟨r0, r1, r2⟩ := hka1.cells3
  obtain ⟨s0, s1, s2⟩ := hkb1.cells3
  have L1 := fun W => better_any p a b blocks now W ha hb k k2
  have L2 := fun W => lbetter_any p a b blocks now W ha hb k k2
  have L3 := fun W => better_any p a a blocks now W ha ha k k2
  rw [hirr] at L3
  generalize better p a b blocks now = R at L1 L2
  clear hB hka hkb hb1 hirr
  go_wp2_with fail
  go_region_held3 (fun w' => w'.cell? ⟨w.heap.size, 0, none⟩ = some (.int .i64 a.1) ∧ w'.cell? ⟨w.heap.size, 1, none⟩ = some (.int .i64 a.2.1) ∧ w'.cell? ⟨w.heap.size, 2, none⟩ = some (.int .u64 a.2.2) ∧ w'.cell? ⟨w.heap.size + 1, 0, none⟩ = some (.int .i64 b.1) ∧ w'.cell? ⟨w.heap.size + 1, 1, none⟩ = some (.int .i64 b.2.1) ∧ w'.cell? ⟨w.heap.size + 1, 2, none⟩ = some (.int .u64 b.2.2))
    (first | exact ⟨by assumption, by assumption, by assumption, by assumption, by assumption, by assumption⟩ | go_keep)
    (first
      | (go_at_call 15; refine (L2 _).mono ?_; rintro e w3 ⟨rfl, hb3⟩; have hka3 : Blk w3 w.heap.size 25 #[.int .i64 a.1, .int .i64 a.2.1, .int .u64 a.2.2] := Blk.later (by assumption) hb3; have hkb3 : Blk w3 (w.heap.size + 1) 25 #[.int .i64 b.1, .int .i64 b.2.1, .int .u64 b.2.2] := Blk.later (by assumption) hb3; have hB3 : Below w.heap.size w w3 := Below.trans (by assumption) (hb3.mono (Below.size (by assumption))); obtain ⟨t0, t1, t2⟩ := hka3.cells3; obtain ⟨t3, t4, t5⟩ := hkb3.cells3)
      | (go_at_call 10; (first | (with_reducible refine (L1 _).mono ?_) | (with_reducible refine (L3 _).mono ?_)); rintro e w3 ⟨rfl, hb3⟩; have hka3 : Blk w3 w.heap.size 25 #[.int .i64 a.1, .int .i64 a.2.1, .int .u64 a.2.2] := Blk.later (by assumption) hb3; have hkb3 : Blk w3 (w.heap.size + 1) 25 #[.int .i64 b.1, .int .i64 b.2.1, .int .u64 b.2.2] := Blk.later (by assumption) hb3; have hB3 : Below w.heap.size w w3 := Below.trans (by assumption) (hb3.mono (Below.size (by assumption))); obtain ⟨t0, t1, t2⟩ := hka3.cells3; obtain ⟨t3, t4, t5⟩ := hkb3.cells3))
  all_goals
    go_wp2
    go_ret
    exact ⟨by first | rfl | simp, by assumption⟩
theorem u64_in' {b : Int} (h : (Lit.int .u64 b).wf = true) : 0 ≤ b ∧ b ≤ 18446744073709551615 := by simp [Lit.wf, IntKind.min, IntKind.max, IntKind.bits, IntKind.signed] at h; omega
theorem i8_in {b : Int} (h : (Lit.int .i8 b).wf = true) : -128 ≤ b ∧ b ≤ 127 := by simp [Lit.wf, IntKind.min, IntKind.max, IntKind.bits, IntKind.signed] at h; omega
theorem u8_in {b : Int} (h : (Lit.int .u8 b).wf = true) : 0 ≤ b ∧ b ≤ 255 := by simp [Lit.wf, IntKind.min, IntKind.max, IntKind.bits, IntKind.signed] at h; omega
theorem victimBetter_true (p a0 a1 a2 b0 b1 b2 blocks now : Int) (w : World) (hp : (Lit.int .i8 p).wf = true) (_ha0 : (Lit.int .i64 a0).wf = true) (_ha1 : (Lit.int .i64 a1).wf = true) (ha2 : (Lit.int .u64 a2).wf = true)
    (_hb0 : (Lit.int .i64 b0).wf = true) (_hb1 : (Lit.int .i64 b1).wf = true) (hb2 : (Lit.int .u64 b2).wf = true) (_hk : (Lit.int .i64 blocks).wf = true) (hn : (Lit.int .u64 now).wf = true) :
    Calls Try.prog 6 #[.int .i8 p, .agg #[.int .i64 a0, .int .i64 a1, .int .u64 a2], .agg #[.int .i64 b0, .int .i64 b1, .int .u64 b2], .int .i64 blocks, .int .u64 now] w
      fun e w' => e = .returned (.bool true) ∧ Below w.heap.size w w' :=
  victimBetter_walk p (a0, a1, a2) (b0, b1, b2) blocks now w (i8_in hp).1 (i8_in hp).2 (u64_in' ha2) (u64_in' hb2) (u64_in' hn).1 (u64_in' hn).2
end Go.Proofs.Ytlkfinkgekkcfaa
