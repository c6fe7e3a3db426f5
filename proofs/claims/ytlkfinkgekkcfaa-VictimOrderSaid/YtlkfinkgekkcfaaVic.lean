/- Which segment is better: plain, and the walks of room, age, Better. No further condition. -/
import Derived.Test.YtlkfinkgekkcfaaTb2
namespace Go.Proofs.Ytlkfinkgekkcfaa
open Go.RowKit
attribute [local go_sem ↓] Go.wp_at_zero Go.wp_at_succ

/-! ### plain -/
def clip (b : Int) : Int := if b < 0 then 0 else if 2048 < b then 2048 else b
def lives (s : Sg) (n : Int) : Int := if s.2.1 < 0 then 0 else if n < s.2.1 then n else s.2.1
def ageOf (s : Sg) (now : Int) : Int := if now < s.2.2 then 0 else if 1099511627776 < now - s.2.2 then 1099511627776 else now - s.2.2
theorem clip_in (b : Int) : 0 ≤ clip b ∧ clip b ≤ 2048 := by unfold clip; split <;> (try split) <;> omega
theorem lives_in (s : Sg) (n : Int) (h : 0 ≤ n) : 0 ≤ lives s n ∧ lives s n ≤ n := by unfold lives; split <;> (try split) <;> omega
theorem ageOf_in (s : Sg) (now : Int) : 0 ≤ ageOf s now ∧ ageOf s now ≤ 1099511627776 := by unfold ageOf; split <;> (try split) <;> omega
/-- A segment's worth, above and below. -/
def up (s : Sg) (n now : Int) : Int := (n - lives s n) * ageOf s now
def dn (s : Sg) (n : Int) : Int := n + lives s n
theorem mul_in {a b A B : Int} (h0 : 0 ≤ a) (h1 : a ≤ A) (k0 : 0 ≤ b) (k1 : b ≤ B) : 0 ≤ a * b ∧ a * b ≤ A * B :=
  ⟨Int.mul_nonneg h0 k0, Int.le_trans (Int.mul_le_mul_of_nonneg_right h1 k0) (Int.mul_le_mul_of_nonneg_left k1 (Int.le_trans h0 h1))⟩
theorem up_in (s : Sg) (n now : Int) (h : 0 ≤ n) (h2 : n ≤ 2048) : 0 ≤ up s n now ∧ up s n now ≤ 2251799813685248 := by
  have h3 := lives_in s n h
  have h4 := ageOf_in s now
  have := mul_in (a := n - lives s n) (A := 2048) (by omega) (by omega) h4.1 h4.2
  unfold up
  omega
theorem dn_in (s : Sg) (n : Int) (h : 0 ≤ n) (h2 : n ≤ 2048) : 0 ≤ dn s n ∧ dn s n ≤ 4096 := by
  have h3 := lives_in s n h
  unfold dn
  omega
theorem cross_in (s t : Sg) (n now : Int) (h : 0 ≤ n) (h2 : n ≤ 2048) : 0 ≤ up s n now * dn t n ∧ up s n now * dn t n ≤ 9223372036854775808 := by
  have h3 := up_in s n now h h2
  have h4 := dn_in t n h h2
  have := mul_in h3.1 h3.2 h4.1 h4.2
  omega
/-- Is one better than another one? -/
def better (p : Int) (a b : Sg) (blocks now : Int) : Bool :=
  if p = 1 then decide (up b (clip blocks) now * dn a (clip blocks) < up a (clip blocks) now * dn b (clip blocks)) else decide (a.2.1 < b.2.1)

/-! ### the walks -/
set_option maxHeartbeats 800000 in
theorem room_ok (s : Sg) (n : Int) (w : World) (h : 0 ≤ n) (h2 : n ≤ 2048) :
    Calls Try.prog 17 #[.agg #[.int .i64 s.1, .int .i64 s.2.1, .int .u64 s.2.2], .int .i64 n] w fun e w' => e = .returned (.tuple #[.int .u64 (n - lives s n), .int .u64 (dn s n)]) ∧ Below w.heap.size w w' := by
  unfold dn lives
  rcases Int.lt_or_le s.2.1 0 with h3 | h3
  · rw [if_pos h3]
    have HB := Lib.hid ((Below.refl w.heap.size w).alloc (Nat.le_refl _) (.cells #[.int .i64 s.1, .int .i64 s.2.1, .int .u64 s.2.2] 25))
    go_enter Try.func17, Try.ntmps17
    go_wp2
    go_ret2
    exact ⟨by simp, HB.out⟩
  · rw [if_neg (by omega)]
    rcases Int.lt_or_le n s.2.1 with h4 | h4
    · rw [if_pos h4]
      have HB := Lib.hid ((Below.refl w.heap.size w).alloc (Nat.le_refl _) (.cells #[.int .i64 s.1, .int .i64 s.2.1, .int .u64 s.2.2] 25))
      go_enter Try.func17, Try.ntmps17
      go_wp2
      go_ret2
      exact ⟨by simp, HB.out⟩
    · rw [if_neg (by omega)]
      have HB := Lib.hid ((Below.refl w.heap.size w).alloc (Nat.le_refl _) (.cells #[.int .i64 s.1, .int .i64 s.2.1, .int .u64 s.2.2] 25))
      rcases Int.lt_or_eq_of_le h4 with h5 | h5
      all_goals
        go_enter Try.func17, Try.ntmps17
        go_wp2
        go_ret2
        exact ⟨by first | rfl | (simp; done) | (simp; omega), (Below.refl _ _).alloc (Nat.le_refl _) _⟩
set_option maxHeartbeats 800000 in
theorem age_ok (s : Sg) (now : Int) (w : World) (h : 0 ≤ s.2.2) (h2 : s.2.2 ≤ 18446744073709551615) (k : 0 ≤ now) (k2 : now ≤ 18446744073709551615) :
    Calls Try.prog 18 #[.agg #[.int .i64 s.1, .int .i64 s.2.1, .int .u64 s.2.2], .int .u64 now] w fun e w' => e = .returned (.int .u64 (ageOf s now)) ∧ Below w.heap.size w w' := by
  have HB := Lib.hid ((Below.refl w.heap.size w).alloc (Nat.le_refl _) (.cells #[.int .i64 s.1, .int .i64 s.2.1, .int .u64 s.2.2] 25))
  unfold ageOf
  rcases Int.lt_or_le now s.2.2 with h3 | h3
  · rw [if_pos h3]
    go_enter Try.func18, Try.ntmps18
    go_wp2
    go_ret
    exact ⟨rfl, HB.out⟩
  · rw [if_neg (by omega)]
    rcases Int.lt_or_le 1099511627776 (now - s.2.2) with h4 | h4
    · rw [if_pos h4]
      go_enter Try.func18, Try.ntmps18
      go_wp2
      go_ret
      exact ⟨by simp, HB.out⟩
    · rw [if_neg (by omega)]
      rcases Int.lt_or_eq_of_le h4 with h5 | h5
      all_goals
        go_enter Try.func18, Try.ntmps18
        go_wp2
        go_ret
        exact ⟨by first | rfl | (simp; done) | (simp; omega), (Below.refl _ _).alloc (Nat.le_refl _) _⟩

/-- A segment's numbers are of their kinds. -/
def Wf (s : Sg) : Prop := 0 ≤ s.2.2 ∧ s.2.2 ≤ 18446744073709551615
theorem better_no (p : Int) (a b : Sg) (blocks now : Int) (w : World) (hp : p ≠ 1) :
    Calls Try.prog 10 #[.int .i64 p, .agg #[.int .i64 a.1, .int .i64 a.2.1, .int .u64 a.2.2], .agg #[.int .i64 b.1, .int .i64 b.2.1, .int .u64 b.2.2], .int .i64 blocks, .int .u64 now] w
      fun e w' => e = .returned (.bool (better p a b blocks now)) ∧ Below w.heap.size w w' := by
  have hd : (p == 1) = false := by simp [hp]
  have HB := Lib.hid (((Below.refl w.heap.size w).alloc (Nat.le_refl _) (.cells #[.int .i64 a.1, .int .i64 a.2.1, .int .u64 a.2.2] 25)).alloc (by simp) (.cells #[.int .i64 b.1, .int .i64 b.2.1, .int .u64 b.2.2] 25))
  obtain ⟨r, hr⟩ : ∃ r, r = better p a b blocks now := ⟨_, rfl⟩
  rw [← hr]
  have hr2 : r = decide (a.2.1 < b.2.1) := by rw [hr]; unfold better; rw [if_neg hp]
  have HR := Lib.hid hr2
  clear hr hr2
  go_enter Try.func10, Try.ntmps10
  go_wp2
  go_ret
  exact ⟨by rw [HR.out]; rfl, HB.out⟩
theorem room_ok' (s : Sg) (n m : Int) (w : World) (h : 0 ≤ n) (h2 : n ≤ 2048) (hm : m = n) :
    Calls Try.prog 17 #[.agg #[.int .i64 s.1, .int .i64 s.2.1, .int .u64 s.2.2], .int .i64 m] w fun e w' => e = .returned (.tuple #[.int .u64 (n - lives s n), .int .u64 (dn s n)]) ∧ Below w.heap.size w w' := by
  subst hm
  exact room_ok s m w h h2
set_option maxHeartbeats 3200000 in
theorem better_yes (a b : Sg) (blocks now : Int) (w : World) (ha : Wf a) (hb : Wf b) (k : 0 ≤ now) (k2 : now ≤ 18446744073709551615) :
    Calls Try.prog 10 #[.int .i64 1, .agg #[.int .i64 a.1, .int .i64 a.2.1, .int .u64 a.2.2], .agg #[.int .i64 b.1, .int .i64 b.2.1, .int .u64 b.2.2], .int .i64 blocks, .int .u64 now] w
      fun e w' => e = .returned (.bool (better 1 a b blocks now)) ∧ Below w.heap.size w w' := by
  have hB := ((Below.refl w.heap.size w).alloc (Nat.le_refl _) (.cells #[.int .i64 a.1, .int .i64 a.2.1, .int .u64 a.2.2] 25)).alloc (by simp) (.cells #[.int .i64 b.1, .int .i64 b.2.1, .int .u64 b.2.2] 25)
  have hka := (Blk.new w 25 #[.int .i64 a.1, .int .i64 a.2.1, .int .u64 a.2.2]).alloc (.cells #[.int .i64 b.1, .int .i64 b.2.1, .int .u64 b.2.2] 25)
  have hkb : Blk ((w.alloc (.cells #[.int .i64 a.1, .int .i64 a.2.1, .int .u64 a.2.2] 25)).alloc (.cells #[.int .i64 b.1, .int .i64 b.2.1, .int .u64 b.2.2] 25)) (w.heap.size + 1) 25 #[.int .i64 b.1, .int .i64 b.2.1, .int .u64 b.2.2] := Blk.new_ _ _ _ (by simp)
  obtain ⟨n, hn⟩ : ∃ n, n = clip blocks := ⟨_, rfl⟩
  have hn2 := clip_in blocks
  rw [← hn] at hn2
  obtain ⟨n0, n1⟩ := hn2
  have hbet : better 1 a b blocks now = decide (up b n now * dn a n < up a n now * dn b n) := by unfold better; rw [if_pos rfl, hn]
  rw [hbet]
  obtain ⟨W, hW⟩ : ∃ W, W = (w.alloc (.cells #[.int .i64 a.1, .int .i64 a.2.1, .int .u64 a.2.2] 25)).alloc (.cells #[.int .i64 b.1, .int .i64 b.2.1, .int .u64 b.2.2] 25) := ⟨_, rfl⟩
  rw [← hW] at hB hka hkb
  have ua := up_in a n now n0 n1
  have ub := up_in b n now n0 n1
  have da := dn_in a n n0 n1
  have db := dn_in b n n0 n1
  have xa := cross_in a b n now n0 n1
  have xb := cross_in b a n now n0 n1
  have ga := ageOf_in a now
  have gb := ageOf_in b now
  have la := lives_in a n n0
  have lb := lives_in b n n0
  have HW := Lib.hid hW
  have HN := Lib.hid hn
  have HB := Lib.hid hB
  obtain ⟨r, hr⟩ : ∃ r, r = decide (up b n now * dn a n < up a n now * dn b n) := ⟨_, rfl⟩
  rw [← hr]
  have HR := Lib.hid hr
  clear hn hbet hW hB hr
  have hcase : (blocks < 0 ∧ n = 0) ∨ (0 ≤ blocks ∧ blocks < 2048 ∧ n = blocks) ∨ (blocks = 2048 ∧ n = 2048) ∨ (2048 < blocks ∧ n = 2048) := by rw [HN.out]; unfold clip; split <;> (try split) <;> omega
  go_enter Try.func10, Try.ntmps10
  have e1 : IntKind.u64.wrap ((n - lives a n) * ageOf a now) = up a n now := IntWalk.u64_in _ ⟨ua.1, by have := ua.2; unfold up at this; omega⟩
  have e2 : IntKind.u64.wrap ((n - lives b n) * ageOf b now) = up b n now := IntWalk.u64_in _ ⟨ub.1, by have := ub.2; unfold up at this; omega⟩
  have e3 : IntKind.u64.wrap (up a n now * dn b n) = up a n now * dn b n := IntWalk.u64_in _ ⟨xa.1, by omega⟩
  have e4 : IntKind.u64.wrap (up b n now * dn a n) = up b n now * dn a n := IntWalk.u64_in _ ⟨xb.1, by omega⟩
  have E1 := Lib.hid e1
  have E2 := Lib.hid e2
  have E3 := Lib.hid e3
  have E4 := Lib.hid e4
  clear e1 e2 e3 e4 ua ub da db xa xb ga gb la lb
  rcases hcase with ⟨hb1, hn⟩ | ⟨hb1, hb2, hn⟩ | ⟨rfl, hn⟩ | ⟨hb1, hn⟩
  all_goals
    have HN := Lib.hid hn
    clear hn
    obtain ⟨q0, q1, q2⟩ := hka.cells3
    go_wp2_with fail
    rw [← HW.out]
    refine (room_ok' a n _ W n0 n1 HN.out.symm).mono ?_
    rintro e w1 ⟨rfl, hba⟩
    have hkb1 := hkb.later hba
    have hka1 := hka.later hba
    obtain ⟨q3, q4, q5⟩ := hkb1.cells3
    go_wp2_with fail
    refine (room_ok' b n _ w1 n0 n1 HN.out.symm).mono ?_
    rintro e w2 ⟨rfl, hbb⟩
    have hB2 := (HB.out.trans ((hba.trans (hbb.mono hba.size)).mono HB.out.size)).drew
    have hkb2 := (hkb1.later hbb).drew
    have hka2 := (hka1.later hbb).drew
    obtain ⟨r0, r1, r2⟩ := hka2.cells3
    obtain ⟨s0, s1, s2⟩ := hkb2.cells3
    clear q0 q1 q2 q3 q4 q5 hka hkb hba hbb hka1 hkb1
    go_wp2
    have e1 := E1.out
    have e2 := E2.out
    have e3 := E3.out
    have e4 := E4.out
    go_region_held3 (fun w' => w'.cell? ⟨w.heap.size, 0, none⟩ = some (.int .i64 a.1) ∧ w'.cell? ⟨w.heap.size, 1, none⟩ = some (.int .i64 a.2.1) ∧ w'.cell? ⟨w.heap.size, 2, none⟩ = some (.int .u64 a.2.2) ∧ w'.cell? ⟨w.heap.size + 1, 0, none⟩ = some (.int .i64 b.1) ∧ w'.cell? ⟨w.heap.size + 1, 1, none⟩ = some (.int .i64 b.2.1) ∧ w'.cell? ⟨w.heap.size + 1, 2, none⟩ = some (.int .u64 b.2.2))
      (first | exact ⟨by assumption, by assumption, by assumption, by assumption, by assumption, by assumption⟩ | go_keep)
      (first
        | (go_at_call_of 18 (Value.int IntKind.u64 a.2.2); refine (age_ok a now _ ha.1 ha.2 k k2).mono ?_; rintro e w3 ⟨rfl, hb3⟩; have hka3 : Blk w3 w.heap.size 25 #[.int .i64 a.1, .int .i64 a.2.1, .int .u64 a.2.2] := Blk.later (by assumption) hb3; have hkb3 : Blk w3 (w.heap.size + 1) 25 #[.int .i64 b.1, .int .i64 b.2.1, .int .u64 b.2.2] := Blk.later (by assumption) hb3; have hB3 : Below w.heap.size w w3 := Below.trans (by assumption) (hb3.mono (Below.size (by assumption))); obtain ⟨t0, t1, t2⟩ := hka3.cells3; obtain ⟨t3, t4, t5⟩ := hkb3.cells3)
        | (go_at_call_of 18 (Value.int IntKind.u64 b.2.2); refine (age_ok b now _ hb.1 hb.2 k k2).mono ?_; rintro e w3 ⟨rfl, hb3⟩; have hka3 : Blk w3 w.heap.size 25 #[.int .i64 a.1, .int .i64 a.2.1, .int .u64 a.2.2] := Blk.later (by assumption) hb3; have hkb3 : Blk w3 (w.heap.size + 1) 25 #[.int .i64 b.1, .int .i64 b.2.1, .int .u64 b.2.2] := Blk.later (by assumption) hb3; have hB3 : Below w.heap.size w w3 := Below.trans (by assumption) (hb3.mono (Below.size (by assumption))); obtain ⟨t0, t1, t2⟩ := hka3.cells3; obtain ⟨t3, t4, t5⟩ := hkb3.cells3))
    all_goals
      go_wp2
      go_ret
      exact ⟨by rw [HR.out]; rfl, by assumption⟩
end Go.Proofs.Ytlkfinkgekkcfaa
