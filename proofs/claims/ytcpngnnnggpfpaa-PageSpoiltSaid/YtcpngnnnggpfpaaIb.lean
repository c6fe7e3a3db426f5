/- Full and Awake of chapter 5. Images and their pages: the plain law: what pages carry is read of them. Awake of chapter 10. No further condition. -/
import Derived.Test.YtcpngnnnggpfpaaSs
import Derived.Test.YtcpngnnnggpfpaaIe
import Derived.Test.YtcpngnnnggpfpaaIk
import Derived.Test.YtcpngnnnggpfpaaIdb
namespace Go.Proofs.Ytcpngnnnggpfpaa
open Go.RowKit
attribute [local go_sem ↓] Go.wp_at_zero Go.wp_at_succ

theorem parity_ok (x : Sh) (t : Nat) (m : Nat) (hm : x.m = m) (h0 : 0 < m) (w : World) : Calls Try.prog 43 #[.agg #[.int .i64 x.m, .int .i64 x.b, .int .i64 x.s, .int .i64 x.t, .int .i64 x.n, .int .i64 x.l], .int .i64 t] w fun e w' => e = .returned (.int .i64 ((t % m : Nat) : Int)) ∧ Below w.heap.size w w' := by
  obtain ⟨q, hq⟩ : ∃ q, q = t % m := ⟨_, rfl⟩
  have e1 : (t : Int).tmod (m : Int) = q := by rw [Int.tmod_eq_emod_of_nonneg (by omega), hq]; rfl
  have e2 : (t : Int) % (m : Int) = q := by rw [hq]; rfl
  have e3 : ((m : Int) == 0) = false := by simp; omega
  rw [hm, ← hq]
  clear hq
  go_enter Try.func43, Try.ntmps43
  go_wp2
  go_ret
  exact ⟨rfl, (Below.refl _ _).alloc (Nat.le_refl _) _⟩
theorem member_ok (x : Sh) (t c : Nat) (m : Nat) (hm : x.m = m) (h0 : 0 < m) (ht : t ≤ 1000000) (hc : c ≤ 1000000) (w : World) : Calls Try.prog 44 #[.agg #[.int .i64 x.m, .int .i64 x.b, .int .i64 x.s, .int .i64 x.t, .int .i64 x.n, .int .i64 x.l], .int .i64 t, .int .i64 c] w fun e w' => e = .returned (.int .i64 (((t + 1 + c) % m : Nat) : Int)) ∧ Below w.heap.size w w' := by
  obtain ⟨s, hs⟩ : ∃ s, s = t + 1 + c := ⟨_, rfl⟩
  obtain ⟨q, hq⟩ : ∃ q, q = s % m := ⟨_, rfl⟩
  have e0 : (t : Int) + 1 + c = s := by omega
  have e1 : (s : Int).tmod (m : Int) = q := by rw [Int.tmod_eq_emod_of_nonneg (by omega), hq]; rfl
  have e2 : (s : Int) % (m : Int) = q := by rw [hq]; rfl
  have e3 : ((m : Int) == 0) = false := by simp; omega
  have e4 : IntKind.i64.wrap (s : Int) = s := IntWalk.i64_in _ (by omega)
  have e5 : IntKind.i64.wrap ((t : Int) + 1) = (t : Int) + 1 := IntWalk.i64_in _ (by omega)
  rw [hm, ← hs, ← hq]
  clear hq hs
  go_enter Try.func44, Try.ntmps44
  go_wp2
  go_ret
  exact ⟨rfl, (Below.refl _ _).alloc (Nat.le_refl _) _⟩
theorem aw1 (W : World) : Calls Try.prog 8 #[.agg #[.int .i64 3, .int .i64 32, .int .i64 4, .int .i64 2, .int .i64 2, .int .i64 1]] W fun e w' => e = .returned (.int .i64 0) ∧ Below W.heap.size W w' := by
  have h := check_ok ⟨3, 32, 4, 2, 2, 1⟩ W
  rw [show chk ⟨3, 32, 4, 2, 2, 1⟩ = 0 by decide] at h
  exact h
theorem aw2 (W : World) : Calls Try.prog 43 #[.agg #[.int .i64 3, .int .i64 32, .int .i64 4, .int .i64 2, .int .i64 2, .int .i64 1], .int .i64 1] W fun e w' => e = .returned (.int .i64 1) ∧ Below W.heap.size W w' := parity_ok ⟨3, 32, 4, 2, 2, 1⟩ 1 3 rfl (by decide) W
theorem aw3 (W : World) : Calls Try.prog 44 #[.agg #[.int .i64 3, .int .i64 32, .int .i64 4, .int .i64 2, .int .i64 2, .int .i64 1], .int .i64 1, .int .i64 0] W fun e w' => e = .returned (.int .i64 2) ∧ Below W.heap.size W w' := member_ok ⟨3, 32, 4, 2, 2, 1⟩ 1 0 3 rfl (by decide) (by decide) (by decide) W
theorem aw4 (W : World) : Calls Try.prog 44 #[.agg #[.int .i64 3, .int .i64 32, .int .i64 4, .int .i64 2, .int .i64 2, .int .i64 1], .int .i64 1, .int .i64 1] W fun e w' => e = .returned (.int .i64 0) ∧ Below W.heap.size W w' := member_ok ⟨3, 32, 4, 2, 2, 1⟩ 1 1 3 rfl (by decide) (by decide) (by decide) W
set_option maxRecDepth 100000 in
set_option maxHeartbeats 6400000 in
theorem awake5_ok (w : World) : Calls Try.prog 20 #[] w fun e w' => e = .returned (.bool true) ∧ Below w.heap.size w w' := by
  have HB0 := Lib.hid ((Below.refl w.heap.size w).alloc (Nat.le_refl _) (.cells #[.int .i64 3, .int .i64 32, .int .i64 4, .int .i64 2, .int .i64 2, .int .i64 1] 23))
  have HS0 := Lib.hid (Blk.new w 23 #[.int .i64 3, .int .i64 32, .int .i64 4, .int .i64 2, .int .i64 2, .int .i64 1])
  go_enter Try.func20, Try.ntmps20
  go_wp2_with (first
    | (go_at_call 8; (with_reducible refine (aw1 _).mono ?_); rintro e w1 ⟨rfl, hb1⟩; have HB1 := Lib.hid (HB0.out.trans (hb1.mono HB0.out.size)); have HS1 := Lib.hid (HS0.out.later hb1); obtain ⟨p0, p1, p2, p3, p4, p5⟩ := HS1.out.cells6; clear hb1)
    | (go_at_call 43; (with_reducible refine (aw2 _).mono ?_); rintro e w2 ⟨rfl, hb2⟩; have HB2 := Lib.hid (HB1.out.trans (hb2.mono HB1.out.size)); have HS2 := Lib.hid (HS1.out.later hb2); obtain ⟨q0, q1, q2, q3, q4, q5⟩ := HS2.out.cells6; clear hb2)
    | (go_at_call 44; (with_reducible refine (aw3 _).mono ?_); rintro e w3 ⟨rfl, hb3⟩; have HB3 := Lib.hid (HB2.out.trans (hb3.mono HB2.out.size)); have HS3 := Lib.hid (HS2.out.later hb3); obtain ⟨r0, r1, r2, r3, r4, r5⟩ := HS3.out.cells6; clear hb3)
    | (go_at_call 44; (with_reducible refine (aw4 _).mono ?_); rintro e w4 ⟨rfl, hb4⟩; have HB4 := Lib.hid (HB3.out.trans (hb4.mono HB3.out.size)); clear hb4)
    | fail "no")
  go_ret
  exact ⟨rfl, HB4.out⟩
theorem ok8_of {a b c d e f : Int} (h0 : (Lit.int .u8 a).wf = true) (h1 : (Lit.int .u8 b).wf = true) (h2 : (Lit.int .u8 c).wf = true) (h3 : (Lit.int .u8 d).wf = true) (h4 : (Lit.int .u8 e).wf = true) (h5 : (Lit.int .u8 f).wf = true) : Ok8 a b c d e f :=
  ⟨u8_in_ h0, u8_in_ h1, u8_in_ h2, u8_in_ h3, u8_in_ h4, u8_in_ h5⟩
theorem sh_end2 {Q : Ending → World → Prop} (t : Array Value) (W : World) {R : Nat} {a b c d e f : Value} (hb : Blk W R 23 #[a, b, c, d, e, f]) (h4 : t.getD 2 undef = .pointer (some ⟨R, 0, none⟩))
    (hQ : Q (.returned (.agg #[a, b, c, d, e, f])) W) : bodyPost Try.prog Try.f11 Q Exit.ret ⟨t, []⟩ W :=
  bodyPost_ret (results_cell_row (by kernel_rfl) t W R 23 #[a, b, c, d, e, f] (0, 0) _ h4 hb Try.underlying23 rfl (by kernel_rfl)) rfl hQ
theorem set6 (a b c d e f x y z u v k : Value) : ((((((#[a, b, c, d, e, f] : Array Value).setIfInBounds 0 x).setIfInBounds 1 y).setIfInBounds 2 z).setIfInBounds 3 u).setIfInBounds 4 v).setIfInBounds 5 k = #[x, y, z, u, v, k] := rfl
def fullOf (a b c d e f : Int) : Sh := ⟨(shOf a b c d e f).m, (shOf a b c d e f).b, (shOf a b c d e f).s, (shOf a b c d e f).t, (shOf a b c d e f).n, ((shOf a b c d e f).s - 3) * ((shOf a b c d e f).t - 1) * ((shOf a b c d e f).m - 2)⟩
theorem full_m {a b c d e f : Int} (h : Ok8 a b c d e f) : (3 ≤ (fullOf a b c d e f).m ∧ (fullOf a b c d e f).m ≤ 5) ∧ (32 ≤ (fullOf a b c d e f).b ∧ (fullOf a b c d e f).b ≤ 40) ∧ (4 ≤ (fullOf a b c d e f).s ∧ (fullOf a b c d e f).s ≤ 6) ∧ (2 ≤ (fullOf a b c d e f).t ∧ (fullOf a b c d e f).t ≤ 3) := shOf_m h
theorem mul3 (s t m : Int) (hs : 4 ≤ s ∧ s ≤ 6) (ht : 2 ≤ t ∧ t ≤ 3) (hm : 3 ≤ m ∧ m ≤ 5) : (1 ≤ (s - 3) * (t - 1) ∧ (s - 3) * (t - 1) ≤ 6) ∧ (1 ≤ (s - 3) * (t - 1) * (m - 2) ∧ (s - 3) * (t - 1) * (m - 2) ≤ 18) := by
  have h1 : s = 4 ∨ s = 5 ∨ s = 6 := by omega
  have h2 : t = 2 ∨ t = 3 := by omega
  have h3 : m = 3 ∨ m = 4 ∨ m = 5 := by omega
  rcases h1 with rfl | rfl | rfl <;> rcases h2 with rfl | rfl <;> rcases h3 with rfl | rfl | rfl <;> decide
theorem full_may {a b c d e f : Int} (h : Ok8 a b c d e f) : mayB (fullOf a b c d e f) = true := by
  have h1 := shOf_may h
  obtain ⟨m1, m2, m3, m4⟩ := shOf_m h
  have h2 := mul3 _ _ _ m3 m4 m1
  unfold mayB at h1 ⊢
  simp only [fullOf]
  simp only [Bool.and_eq_true] at h1 ⊢
  exact ⟨h1.1, by unfold inB; exact decide_eq_true ⟨h2.2.1, Int.le_refl _⟩⟩
set_option maxRecDepth 100000 in
set_option maxHeartbeats 6400000 in
theorem full_ok (a b c d e f : Int) (w : World) (h : Ok8 a b c d e f) :
    Calls Try.prog 11 #[.agg #[.int .u8 a, .int .u8 b, .int .u8 c, .int .u8 d, .int .u8 e, .int .u8 f]] w fun en w' => en = .returned (.agg #[.int .i64 (fullOf a b c d e f).m, .int .i64 (fullOf a b c d e f).b, .int .i64 (fullOf a b c d e f).s, .int .i64 (fullOf a b c d e f).t, .int .i64 (fullOf a b c d e f).n, .int .i64 (fullOf a b c d e f).l]) ∧ Below w.heap.size w w' := by
  obtain ⟨m1, m2, m3, m4⟩ := shOf_m h
  have h2 := mul3 _ _ _ m3 m4 m1
  have hsh := fun W => shape_ok a b c d e f W h
  unfold shv at hsh
  unfold fullOf
  generalize shOf a b c d e f = x at *
  obtain ⟨p1, hp1⟩ : ∃ p1, p1 = (x.s - 3) * (x.t - 1) := ⟨_, rfl⟩
  obtain ⟨p2, hp2⟩ : ∃ p2, p2 = p1 * (x.m - 2) := ⟨_, rfl⟩
  simp only
  rw [← hp1, ← hp2] at h2 ⊢
  have e1 : IntKind.i64.wrap ((x.s - 3) * (x.t - 1)) = p1 := by rw [← hp1]; exact IntWalk.i64_in _ (by omega)
  have e2 : IntKind.i64.wrap (p1 * (x.m - 2)) = p2 := by rw [← hp2]; exact IntWalk.i64_in _ (by omega)
  have HSH := Lib.hid hsh
  have hb : Below w.heap.size w ((w.alloc (.cells #[.int .u8 a, .int .u8 b, .int .u8 c, .int .u8 d, .int .u8 e, .int .u8 f] 38)).alloc (.cells #[.int .i64 0, .int .i64 0, .int .i64 0, .int .i64 0, .int .i64 0, .int .i64 0] 23)) := ((Below.refl _ _).alloc (Nat.le_refl _) _).alloc (by simp) _
  have hr : Blk ((w.alloc (.cells #[.int .u8 a, .int .u8 b, .int .u8 c, .int .u8 d, .int .u8 e, .int .u8 f] 38)).alloc (.cells #[.int .i64 0, .int .i64 0, .int .i64 0, .int .i64 0, .int .i64 0, .int .i64 0] 23)) (w.heap.size + 1) 23 #[.int .i64 0, .int .i64 0, .int .i64 0, .int .i64 0, .int .i64 0, .int .i64 0] := Blk.new_ _ _ _ (by simp)
  have HB := Lib.hid hb
  have HR := Lib.hid hr
  clear hsh hb hr h hp1 hp2
  go_enter Try.func11, Try.ntmps11
  go_wp2_with (go_at_call 19; (with_reducible refine (HSH.out _).mono ?_); rintro e w1 ⟨rfl, hb1⟩; have HB1 := Lib.hid (HB.out.trans (hb1.mono HB.out.size)); have HR1 := Lib.hid (HR.out.later hb1); clear hb1; obtain ⟨r0, r1, r2, r3, r4, r5⟩ := HR1.out.cells6; have f0 := HR1.out.frozen 0; have f1 := HR1.out.frozen 1; have f2 := HR1.out.frozen 2; have f3 := HR1.out.frozen 3; have f4 := HR1.out.frozen 4; have f5 := HR1.out.frozen 5; have hlt := HR1.out.lt; have hne : w1.heap.size ≠ w.heap.size + 1 := by omega)
  have hset := (((((HR1.out.set_ 0 (.int .i64 x.m)).set_ 1 (.int .i64 x.b)).set_ 2 (.int .i64 x.s)).set_ 3 (.int .i64 x.t)).set_ 4 (.int .i64 x.n)).set_ 5 (.int .i64 p2)
  rw [set6] at hset
  have hfr : Fr (· = w.heap.size + 1) w1 ((((((w1.setCell ⟨w.heap.size + 1, 0, none⟩ (.int .i64 x.m)).setCell ⟨w.heap.size + 1, 1, none⟩ (.int .i64 x.b)).setCell ⟨w.heap.size + 1, 2, none⟩ (.int .i64 x.s)).setCell ⟨w.heap.size + 1, 3, none⟩ (.int .i64 x.t)).setCell ⟨w.heap.size + 1, 4, none⟩ (.int .i64 x.n)).setCell ⟨w.heap.size + 1, 5, none⟩ (.int .i64 p2)) :=
    (((((((Fr.refl (· = w.heap.size + 1) w1).setCell (p := ⟨w.heap.size + 1, 0, none⟩) (.inl rfl) _).setCell (p := ⟨w.heap.size + 1, 1, none⟩) (.inl rfl) _).setCell (p := ⟨w.heap.size + 1, 2, none⟩) (.inl rfl) _).setCell (p := ⟨w.heap.size + 1, 3, none⟩) (.inl rfl) _).setCell (p := ⟨w.heap.size + 1, 4, none⟩) (.inl rfl) _).setCell (p := ⟨w.heap.size + 1, 5, none⟩) (.inl rfl) _)
  have hbw := (HB1.out.trans (hfr.toBelow HB1.out.size fun b hb e => by omega))
  exact sh_end2 _ _ (hset.alloc _) rfl ⟨rfl, hbw.alloc hbw.size _⟩
end Go.Proofs.Ytcpngnnnggpfpaa
namespace Go.Proofs.Ytcpngnnnggpfpaa
open Go.RowKit

theorem nf_mid {a b xs : List Int} {n v i : Nat} (e : xs = a ++ le n v ++ b) (hi : i = a.length) (hn : n ≤ 8) (hv : v < 256 ^ n) : nf xs i n = v :=
  nf_at (b := b) (by subst e hi; rw [List.append_assoc, List.drop_append_of_le_length (Nat.le_refl _), List.drop_length, List.nil_append]) hn hv
theorem flat_split {α : Type} (f : α → List Int) {l : List α} {i : Nat} {s : α} (h : l[i]? = some s) : l.flatMap f = (l.take i).flatMap f ++ f s ++ (l.drop (i + 1)).flatMap f := by
  have h1 := take_snoc_pk h
  have h2 : l = l.take (i + 1) ++ l.drop (i + 1) := (List.take_append_drop _ _).symm
  conv => lhs; rw [h2]
  rw [List.flatMap_append, h1, List.flatMap_append]
  simp
theorem segsAt_get (all : List Int) (n i : Nat) (h : i < (segsAt all n).length) : (segsAt all n)[i] = segAt all i := by simp [segsAt]
theorem mapsAt_get (all : List Int) (s n i : Nat) (h : i < (mapsAt all s n).length) : (mapsAt all s n)[i] = mapAt all s i := by simp [mapsAt]
theorem pic_back (y : Pic) (zs : List Int) (h : OkPic y) : picAt (picL y ++ zs) y.cs.length y.mp.length = y := by
  obtain ⟨sq, sg, ix, cs, mp⟩ := y
  obtain ⟨h1, h2, h3, h4, h5, h6, h7⟩ := h
  simp only at h1 h2 h3 h4 h5 h6 h7
  unfold picAt
  simp only
  have e1 : nf (picL ⟨sq, sg, ix, cs, mp⟩ ++ zs) 0 8 = sq := nf_mid (a := []) (b := le 2 sg ++ le 2 ix ++ csL cs ++ mpL mp ++ zs) (by simp [picL, hdL]) rfl (by decide) (by omega)
  have e2 : nf (picL ⟨sq, sg, ix, cs, mp⟩ ++ zs) 8 2 = sg := nf_mid (a := le 8 sq) (b := le 2 ix ++ csL cs ++ mpL mp ++ zs) (by simp [picL, hdL]) (by simp [le_len]) (by decide) (by omega)
  have e3 : nf (picL ⟨sq, sg, ix, cs, mp⟩ ++ zs) 10 2 = ix := nf_mid (a := le 8 sq ++ le 2 sg) (b := csL cs ++ mpL mp ++ zs) (by simp [picL, hdL]) (by simp [le_len]) (by decide) (by omega)
  have e4 : segsAt (picL ⟨sq, sg, ix, cs, mp⟩ ++ zs) cs.length = cs := by
    refine List.ext_getElem (segsAt_len _ _) fun i hi hj => ?_
    have hs : cs[i]? = some cs[i] := List.getElem?_eq_getElem hj
    obtain ⟨q1, q2⟩ := h4 _ (List.getElem_mem hj)
    have hsp : csL cs = csL (cs.take i) ++ (le 1 cs[i].1 ++ le 8 cs[i].2) ++ csL (cs.drop (i + 1)) := flat_split (fun s : Nat × Nat => le 1 s.1 ++ le 8 s.2) hs
    have hl : (csL (cs.take i)).length = i * 9 := by rw [csL_len, List.length_take]; omega
    rw [segsAt_get]
    unfold segAt
    refine Prod.ext ?_ ?_
    · exact nf_mid (a := hdL sq sg ix ++ csL (cs.take i)) (b := le 8 cs[i].2 ++ csL (cs.drop (i + 1)) ++ mpL mp ++ zs) (by unfold picL; simp only; rw [hsp]; simp only [List.append_assoc]) (by rw [List.length_append, hdL_len, hl]; omega) (by decide) (by omega)
    · exact nf_mid (a := hdL sq sg ix ++ csL (cs.take i) ++ le 1 cs[i].1) (b := csL (cs.drop (i + 1)) ++ mpL mp ++ zs) (by unfold picL; simp only; rw [hsp]; simp only [List.append_assoc]) (by rw [List.length_append, List.length_append, hdL_len, hl, le_len]; omega) (by decide) (by omega)
  have e5 : mapsAt (picL ⟨sq, sg, ix, cs, mp⟩ ++ zs) cs.length mp.length = mp := by
    refine List.ext_getElem (mapsAt_len _ _ _) fun i hi hj => ?_
    have hs : mp[i]? = some mp[i] := List.getElem?_eq_getElem hj
    have q1 := h5 _ (List.getElem_mem hj)
    have hsp : mpL mp = mpL (mp.take i) ++ le 4 mp[i] ++ mpL (mp.drop (i + 1)) := flat_split (le 4) hs
    have hl : (mpL (mp.take i)).length = i * 4 := by rw [mpL_len, List.length_take]; omega
    rw [mapsAt_get]
    unfold mapAt
    exact nf_mid (a := hdL sq sg ix ++ csL cs ++ mpL (mp.take i)) (b := mpL (mp.drop (i + 1)) ++ zs) (by unfold picL; simp only; rw [hsp]; simp only [List.append_assoc]) (by rw [List.length_append, List.length_append, hdL_len, hl, csL_len]; omega) (by decide) (by omega)
  rw [e1, e2, e3, e4, e5]
/-- The image may be, of such a shape. -/
structure OkIm (s t q : Nat) (y : Pic) : Prop where
  sg : y.sg ≤ s
  ix : y.ix < t
  cs : ∀ c ∈ y.cs, c.1 ≤ 2
  mp : ∀ p ∈ y.mp, p ≤ q
theorem pic_may (s t q n : Nat) (y : Pic) (h : OkPic y) (k : OkIm s t q y) (hs : y.cs.length = s) : picB s t q (picL y ++ List.replicate n 0) y.mp.length = true := by
  unfold picB
  rw [← hs, pic_back y _ h]
  rw [hs]
  have h1 : decide ((y.sg : Int) - 1 < s) = true := decide_eq_true (by have := k.sg; omega)
  have h2 : decide (y.ix < t) = true := decide_eq_true k.ix
  have h3 : (y.cs.all fun c => decide (c.1 ≤ 2)) = true := List.all_eq_true.2 fun c hc => decide_eq_true (k.cs c hc)
  have h4 : (y.mp.all fun p => decide ((p : Int) - 1 < q)) = true := List.all_eq_true.2 fun c hc => decide_eq_true (by have := k.mp c hc; omega)
  have h5 : (picL y ++ List.replicate n 0).drop (12 + 9 * s + 4 * y.mp.length) = List.replicate n 0 := by
    rw [List.drop_append_of_le_length (by rw [picL_len]; omega), List.drop_of_length_le (by rw [picL_len]; omega), List.nil_append]
  rw [h1, h2, h3, h4, h5]
  unfold zer
  rw [List.all_eq_true.2 fun c hc => by rw [List.eq_of_mem_replicate hc]; rfl]
  rfl

/-! ### pages -/
theorem page_parts (gen g : Nat) (all : List Int) (i : Nat) (ho : Oct all) : (pgL gen g all i).take (g + 11) = pad (pgB gen g all i) (g + 11) ∧ num ((pgL gen g all i).drop (g + 11)) = cs (pad (pgB gen g all i) (g + 11)) := by
  have hl : (pad (pgB gen g all i) (g + 11)).length = g + 11 := pad_len (pgB_len _ _ _ _)
  have hoc : Oct (pad (pgB gen g all i) (g + 11)) := pad_oct (pgB_oct ho _ _ _) _
  unfold pgL sealL
  constructor
  · rw [List.take_append_of_le_length (by omega), List.take_of_length_le (by omega)]
  · rw [List.drop_append_of_le_length (by omega), List.drop_of_length_le (by omega), List.nil_append, num_le, Nat.mod_eq_of_lt (by have := cs_lt hoc; omega)]
theorem head_of (gen g : Nat) (all : List Int) (i : Nat) (hg : gen < 18446744073709551616) (hi : i < 65536) (n : Nat) : nf (pad (pgB gen g all i) n) 0 1 = 80 ∧ nf (pad (pgB gen g all i) n) 1 8 = gen ∧ nf (pad (pgB gen g all i) n) 9 2 = i := by
  unfold pad pgB
  refine ⟨?_, ?_, ?_⟩
  · exact nf_mid (a := []) (n := 1) (v := 80) (b := le 8 gen ++ le 2 i ++ (all.drop (i * g)).take g ++ List.replicate _ 0) (by simp only [List.append_assoc]; rfl) rfl (by decide) (by decide)
  · exact nf_mid (a := le 1 80) (b := le 2 i ++ (all.drop (i * g)).take g ++ List.replicate _ 0) (by simp only [List.append_assoc]; rfl) (by simp [le_len]) (by decide) (by omega)
  · exact nf_mid (a := le 1 80 ++ le 8 gen) (b := (all.drop (i * g)).take g ++ List.replicate _ 0) (by simp only [List.append_assoc]; rfl) (by simp [le_len]) (by decide) (by omega)
theorem one_page (gen gen' g : Nat) (all : List Int) (i j : Nat) (ho : Oct all) (hg : gen < 18446744073709551616) (hi : i < 65536) : oneC gen' g j (pgL gen g all i) = if gen = gen' ∧ i = j then 0 else 4 := by
  obtain ⟨h1, h2⟩ := page_parts gen g all i ho
  obtain ⟨h3, h4, h5⟩ := head_of gen g all i hg hi (g + 11)
  unfold oneC
  rw [if_pos (pgL_len _ _ _ _), h1, if_pos h2]
  unfold headB
  rw [h3, h4, h5]
  by_cases a : gen = gen' <;> by_cases b : i = j <;> simp [a, b]
theorem rest_page (gen g : Nat) (all : List Int) (i : Nat) (ho : Oct all) : restL g (pgL gen g all i) = pad ((all.drop (i * g)).take g) g := by
  unfold restL
  rw [(page_parts gen g all i ho).1]
  have hh : (le 1 80 ++ le 8 gen ++ le 2 i).length = 11 := by simp [le_len]
  unfold pad pgB
  rw [List.append_assoc, List.drop_append_of_le_length (by omega), List.drop_of_length_le (by omega), List.nil_append, List.length_append, hh]
  congr 2
  omega
theorem pad_slice (all : List Int) (n i g : Nat) (hi : (i + 1) * g ≤ n) (hn : all.length ≤ n) : ((pad all n).drop (i * g)).take g = pad ((all.drop (i * g)).take g) g := by
  rw [Nat.succ_mul] at hi
  refine List.ext_getElem? fun k => ?_
  unfold pad
  rw [List.getElem?_take, List.getElem?_drop]
  by_cases hk : k < g
  · rw [if_pos hk]
    by_cases h1 : i * g + k < all.length
    · rw [List.getElem?_append_left h1, List.getElem?_append_left (by rw [List.length_take, List.length_drop]; omega), List.getElem?_take, if_pos hk, List.getElem?_drop]
    · rw [List.getElem?_append_right (by omega), List.getElem?_append_right (by rw [List.length_take, List.length_drop]; omega), List.getElem?_replicate, List.getElem?_replicate, List.length_take, List.length_drop, if_pos (by omega), if_pos (by omega)]
  · rw [if_neg hk, List.getElem?_eq_none (by rw [List.length_append, List.length_replicate, List.length_take, List.length_drop]; omega)]
theorem rests_pages (gen g : Nat) (all : List Int) (P : Nat) (ho : Oct all) (hP : all.length ≤ P * g) (k : Nat) (hk : k ≤ P) : restsL g (pgsL gen g all k) = (pad all (P * g)).take (k * g) := by
  induction k with
  | zero => simp [pgsL, restsL]
  | succ k ih =>
    rw [pgsL_snoc]
    unfold restsL at ih ⊢
    rw [List.flatMap_append, ih (by omega), List.flatMap_singleton, rest_page _ _ _ _ ho, ← pad_slice all (P * g) k g (Nat.mul_le_mul_right _ hk) hP, Nat.succ_mul, List.take_add]
theorem rests_all (gen g : Nat) (all : List Int) (P : Nat) (ho : Oct all) (hP : all.length ≤ P * g) : restsL g (pgsL gen g all P) = all ++ List.replicate (P * g - all.length) 0 := by
  rw [rests_pages gen g all P ho hP P (Nat.le_refl _), List.take_of_length_le (by rw [pad_len hP]; exact Nat.le_refl _)]
  rfl
theorem first_range (gen g : Nat) (all : List Int) (ho : Oct all) (hg : gen < 18446744073709551616) (n i : Nat) (h : i + n ≤ 65536) : firstC gen g i ((List.range' i n).map (pgL gen g all)) = 0 := by
  induction n generalizing i with
  | zero => rfl
  | succ n ih =>
    rw [List.range'_succ, List.map_cons]
    unfold firstC
    have h1 := one_page gen gen g all i i ho hg (by omega)
    rw [if_pos ⟨rfl, rfl⟩] at h1
    rw [if_pos h1]
    exact ih (i + 1) (by omega)
theorem pgsL_len (gen g : Nat) (all : List Int) (P : Nat) : (pgsL gen g all P).length = P := by simp [pgsL]
theorem first_pages (gen g : Nat) (all : List Int) (ho : Oct all) (hg : gen < 18446744073709551616) (P : Nat) (h : P ≤ 65536) : firstC gen g 0 (pgsL gen g all P) = 0 := by
  unfold pgsL
  rw [List.range_eq_range']
  exact first_range gen g all ho hg P 0 (by omega)
theorem back_code (gen g P s t q : Nat) (y : Pic) (h : OkPic y) (k : OkIm s t q y) (hs : y.cs.length = s) (hg : gen < 18446744073709551616) (hP : P ≤ 65536) (hT : (picL y).length ≤ P * g) :
    decC gen g P s t q y.mp.length (pgsL gen g (picL y) P) = 0 ∧ decP gen g P s t q y.mp.length (pgsL gen g (picL y) P) = y := by
  have h1 : decC gen g P s t q y.mp.length (pgsL gen g (picL y) P) = 0 := by
    unfold decC
    rw [if_pos (pgsL_len _ _ _ _), if_pos (first_pages gen g _ (picL_oct y) hg P hP), rests_all gen g _ P (picL_oct y) hT, if_pos (pic_may s t q _ y h k hs)]
  refine ⟨h1, ?_⟩
  unfold decP
  rw [if_pos h1, rests_all gen g _ P (picL_oct y) hT, ← hs, pic_back y _ h]
/-- Pages of another generation, or with another one first, are none. -/
theorem other_code (gen gen' g P s t q l : Nat) (all : List Int) (i : Nat) (rest : List (List Int)) (ho : Oct all) (hg : gen < 18446744073709551616) (hi : i < 65536) (hne : gen ≠ gen' ∨ i ≠ 0) (hl : rest.length + 1 = P) :
    decC gen' g P s t q l (pgL gen g all i :: rest) = 4 := by
  have h1 : firstC gen' g 0 (pgL gen g all i :: rest) = 4 := by
    unfold firstC
    have h1 := one_page gen gen' g all i 0 ho hg hi
    rw [if_neg (fun h => by rcases hne with h1 | h1; exact h1 h.1; exact h1 h.2)] at h1
    rw [h1, if_neg (by decide)]
  unfold decC
  rw [if_pos (by simpa using hl), h1, if_neg (by decide)]
/-! ### what Make makes may be -/
theorem segsM_ok (cs : List (Nat × Nat)) (n : Nat) (h : ∀ c ∈ cs, c.1 < 256 ∧ c.2 < 18446744073709551616) : ∀ c ∈ segsM cs n, c.1 ≤ 2 ∧ c.2 < 18446744073709551616 := by
  intro c hc
  obtain ⟨i, _, rfl⟩ := List.mem_map.1 hc
  unfold segM
  refine ⟨by simp only; omega, ?_⟩
  simp only
  rw [List.getD_eq_getElem?_getD]
  by_cases hi : i < cs.length
  · rw [List.getElem?_eq_getElem hi]
    exact (h _ (List.getElem_mem hi)).2
  · rw [List.getElem?_eq_none (by omega)]
    exact (by decide)
theorem mapsM_ok (mp : List Nat) (q n : Nat) : ∀ p ∈ mapsM mp q n, p ≤ q := by
  intro p hp
  obtain ⟨i, _, rfl⟩ := List.mem_map.1 hp
  unfold mapM
  have := Nat.mod_lt (mp.getD i 0) (show 0 < q + 1 by omega)
  omega
theorem makeP_ok (y : Sml) (h : OkSml y) (s t q l : Nat) (hs : 2 ≤ s ∧ s ≤ 1000) (ht : 1 ≤ t ∧ t ≤ 1000) (hq : q ≤ 1000000) (hl : l ≤ 1000) : OkPic (makeP y s t q l) ∧ OkIm s t q (makeP y s t q l) ∧ (makeP y s t q l).cs.length = s ∧ (makeP y s t q l).mp.length = l := by
  have h1 := sgM_lt y.sg s (by omega)
  have h2 := Nat.mod_lt y.ix (show 0 < t by omega)
  refine ⟨⟨h.sq, ?_, ?_, ?_, ?_, ?_, ?_⟩, ⟨h1, h2, ?_, ?_⟩, segsM_len _ _, mapsM_len _ _ _⟩
  · show sgM y.sg s < 65536
    omega
  · show y.ix % t < 65536
    omega
  · intro c hc
    have := segsM_ok y.cs s h.cs c hc
    omega
  · intro p hp
    have := mapsM_ok y.mp q l p hp
    omega
  · show (segsM y.cs s).length ≤ 1000
    rw [segsM_len]
    exact hs.2
  · show (mapsM y.mp q l).length ≤ 1000
    rw [mapsM_len]
    exact hl
  · exact fun c hc => (segsM_ok y.cs s h.cs c hc).1
  · exact mapsM_ok y.mp q l
end Go.Proofs.Ytcpngnnnggpfpaa
namespace Go.Proofs.Ytcpngnnnggpfpaa
open Go.RowKit
attribute [local go_sem ↓] Go.wp_at_zero Go.wp_at_succ

def awX : Sh := ⟨3, 32, 4, 2, 1, 1⟩
def awY : Pic := makeP ⟨7, 0, 0, [], [4]⟩ 4 2 8 1
def awL : List (List Int) := pgsL 3 17 (picL awY) 4
theorem awY_eq : awY = ⟨7, 1, 0, [(0, 0), (0, 0), (0, 0), (0, 0)], [4]⟩ := by decide
theorem aw_gd : Gd awX 52 4 17 := ⟨by decide, by decide, by decide, by decide, by decide⟩
theorem aw_ok : OkPic awY ∧ OkIm 4 2 8 awY ∧ awY.cs.length = 4 ∧ awY.mp.length = 1 := makeP_ok _ ⟨by decide, by decide, by decide, by simp, by intro p hp; simp at hp; omega⟩ 4 2 8 1 (by decide) (by decide) (by decide) (by decide)
theorem bcell_ {W W1 : World} (hb : Below W.heap.size W W1) : (∀ b o, b < W.heap.size → W1.cell? ⟨b, o, none⟩ = W.cell? ⟨b, o, none⟩) ∧ (∀ b o, b < W.heap.size → W1.frozen? ⟨b, o, none⟩ = W.frozen? ⟨b, o, none⟩) :=
  ⟨fun b o h => hb.cell (p := ⟨b, o, none⟩) h, fun b o h => hb.frozen (p := ⟨b, o, none⟩) h⟩
section
variable {w w' : World} {g h : Nat} {a b c d e u : Value} {p : Addr}
/-- Block g is an image's. -/
def Has5 (w : World) (g : Nat) : Prop := ∃ a b c d e, Blk w g 28 #[a, b, c, d, e]
theorem Has5.new (hs : w.heap.size = g) : Has5 (w.alloc (.cells #[a, b, c, d, e] 28)) g := ⟨a, b, c, d, e, Blk.new_ _ _ _ hs⟩
theorem Has5.alloc (q : Has5 w g) (o : Obj) : Has5 (w.alloc o) g := by
  obtain ⟨a, b, c, d, e, q⟩ := q
  exact ⟨a, b, c, d, e, q.alloc o⟩
theorem Has5.drew (q : Has5 w g) : Has5 w.drew g := q
theorem Has5.later (q : Has5 w g) (hb : Below w.heap.size w w') : Has5 w' g := by
  obtain ⟨a, b, c, d, e, q⟩ := q
  exact ⟨a, b, c, d, e, q.later hb⟩
theorem Blk.set5e (q : Has5 w g) : Blk (((((w.setCell ⟨g, 0, none⟩ a).setCell ⟨g, 1, none⟩ b).setCell ⟨g, 2, none⟩ c).setCell ⟨g, 3, none⟩ d).setCell ⟨g, 4, none⟩ e) g 28 #[a, b, c, d, e] := by
  obtain ⟨_, _, _, _, _, q⟩ := q
  exact (im_set q a b c d e).1
theorem cell_set5 (k : w.cell? p = some u) (hne : p.block ≠ g) : (((((w.setCell ⟨g, 0, none⟩ a).setCell ⟨g, 1, none⟩ b).setCell ⟨g, 2, none⟩ c).setCell ⟨g, 3, none⟩ d).setCell ⟨g, 4, none⟩ e).cell? p = some u := by
  have hx : ∀ i, (⟨g, i, none⟩ : Addr) ≠ p := fun i e => hne (by rw [← e])
  rw [World.cell?_setCell_other _ _ _ _ (hx _), World.cell?_setCell_other _ _ _ _ (hx _), World.cell?_setCell_other _ _ _ _ (hx _), World.cell?_setCell_other _ _ _ _ (hx _), World.cell?_setCell_other _ _ _ _ (hx _)]
  exact k
theorem cell_alloc (k : w.cell? p = some u) (o : Obj) : (w.alloc o).cell? p = some u := by
  rw [((Below.refl w.heap.size w).alloc (Nat.le_refl _) o).cell (World.block_lt_of_cell? w _ k)]
  exact k
theorem cell_drew (k : w.cell? p = some u) : w.drew.cell? p = some u := k
end
/-- What the law's Awake holds behind its one great statement. -/
structure AwR (w W : World) (X : Nat) (A : Option Addr) (c : Nat) (ad : Addr) (d : Nat) : Prop where
  im : Blk W X 28 #[.int .u64 7, .int .i64 0, .int .i64 0, .slice A 4 c, .slice (some ad) 1 d]
  el : W.cell? (ad.add 0) = some (.int .i64 3)
  bel : Below w.heap.size w W
theorem awS (W : World) : Calls Try.prog 19 #[.agg #[.int .u8 0, .int .u8 0, .int .u8 0, .int .u8 0, .int .u8 0, .int .u8 0]] W fun e w' => e = .returned (.agg #[.int .i64 3, .int .i64 32, .int .i64 4, .int .i64 2, .int .i64 1, .int .i64 1]) ∧ Below W.heap.size W w' :=
  shape_ok 0 0 0 0 0 0 W ⟨by decide, by decide, by decide, by decide, by decide, by decide⟩
theorem awM (W : World) (B : Option Addr) (d : Nat) (hr : Rd W B (mus [4])) : Calls Try.prog 12 #[.agg #[.int .i64 3, .int .i64 32, .int .i64 4, .int .i64 2, .int .i64 1, .int .i64 1], .agg #[.int .u64 7, .int .i8 0, .int .u8 0, .slice none 0 0, .slice B 1 d]] W fun e w' => (∃ A c B d, e = .returned (.agg #[.int .u64 7, .int .i64 0, .int .i64 0, .slice A 4 c, .slice B 1 d]) ∧ Rd w' A (sgs awY.cs) ∧ Rd w' B (mps awY.mp)) ∧ Below W.heap.size W w' := by
  refine (make_ok awX ⟨7, 0, 0, [], [4]⟩ none B 0 d 4 2 8 1 W ⟨by decide, by decide, by decide, by simp, by intro p hp; simp at hp; omega⟩ rfl rfl rfl (by decide) (by decide) (by decide) 8 1 (by decide) (by decide) (by decide) (by decide) (Rd.nil _ _) hr).mono ?_
  rintro e w' ⟨⟨A, c, B', d', rfl, h1, h2⟩, hb⟩
  exact ⟨⟨A, c, B', d', rfl, h1, h2⟩, hb⟩
theorem awE (W : World) (A B : Option Addr) (c d : Nat) (ra : Rd W A (sgs awY.cs)) (rb : Rd W B (mps awY.mp)) : Calls Try.prog 9 #[.agg #[.int .i64 3, .int .i64 32, .int .i64 4, .int .i64 2, .int .i64 1, .int .i64 1], .int .u64 3, .agg #[.int .u64 7, .int .i64 0, .int .i64 0, .slice A 4 c, .slice B 1 d]] W fun e w' => (∃ A c l, e = .returned (.slice A 4 c) ∧ rws l = awL ∧ Rd w' A (scs l) ∧ Hsc w' l ∧ 4 ≤ c) ∧ Below W.heap.size W w' := by
  refine (enc_ok awX 3 awY A B c d 52 4 17 W (by decide) aw_gd (by decide) aw_ok.1 (by decide) (by decide) ra rb).mono ?_
  rintro e w' ⟨⟨A, c, l, rfl, h1, h2, h3, h4⟩, hb⟩
  rw [pgsL_len] at h4 ⊢
  exact ⟨⟨A, c, l, rfl, h1, h2, h3, h4⟩, hb⟩
theorem pgsL_oct {gen g : Nat} {all : List Int} (h : Oct all) (P : Nat) : ∀ xs ∈ pgsL gen g all P, Oct xs := by
  intro xs hx
  obtain ⟨i, _, rfl⟩ := List.mem_map.1 hx
  exact sealL_oct (pad_oct (pgB_oct h _ _ _) _)
theorem rws_oct {l : List Sc} {xs : List (List Int)} (h : rws l = xs) (ho : ∀ x ∈ xs, Oct x) : ∀ s ∈ l, Oct s.raw := fun s hs => ho _ (by rw [← h]; exact List.mem_map.2 ⟨s, hs, rfl⟩)
theorem awD (W : World) (A : Option Addr) (c : Nat) (l : List Sc) (h1 : rws l = awL) (h2 : Rd W A (scs l)) (h3 : Hsc W l) (h4 : 4 ≤ c) : Calls Try.prog 10 #[.agg #[.int .i64 3, .int .i64 32, .int .i64 4, .int .i64 2, .int .i64 1, .int .i64 1], .int .u64 3, .slice A 4 c] W fun e w' => (∃ A c B d, e = .returned (.tuple #[.agg #[.int .u64 7, .int .i64 0, .int .i64 0, .slice A 4 c, .slice B 1 d], .int .i64 0]) ∧ ∃ ad, B = some ad ∧ w'.cell? (ad.add 0) = some (.int .i64 3) ∧ W.heap.size ≤ ad.block) ∧ Below W.heap.size W w' := by
  have hl : l.length = 4 := by rw [← rws_len, h1]; exact pgsL_len _ _ _ _
  have hb := back_code 3 17 4 4 2 8 awY aw_ok.1 aw_ok.2.1 aw_ok.2.2.1 (by decide) (by decide) (by rw [picL_len]; decide)
  refine (dec_ok awX 3 A c l 52 4 17 4 2 8 1 W (by decide) aw_gd (by decide) (by decide) rfl rfl rfl 8 1 (by decide) (by decide) (by decide) (by decide) h2 h3 (rws_oct h1 (pgsL_oct (picL_oct _) _)) hl h4).mono ?_
  rw [h1, show decC 3 17 4 4 2 8 1 awL = 0 from hb.1, show decP 3 17 4 4 2 8 1 awL = awY from hb.2]
  rintro e w' ⟨⟨A, c, B, d, rfl, r1, r2, -, r4⟩, hb⟩
  refine ⟨⟨A, c, B, d, rfl, ?_⟩, hb⟩
  obtain ⟨ad, e, h⟩ := mps_at r2 (i := 0) (p := 4) rfl
  exact ⟨ad, e, h, r4 ad e⟩
set_option maxRecDepth 100000 in
set_option maxHeartbeats 6400000 in
theorem awake_ok (w : World) : Calls Try.prog 7 #[] w fun e w' => e = .returned (.bool true) ∧ Below w.heap.size w w' := by
  have HA5 := Lib.hid awake5_ok
  go_enter Try.func7, Try.ntmps7
  go_upto_region 2 with (go_at_call 19; (with_reducible refine (awS _).mono ?_); rintro e w1 ⟨rfl, hb1⟩; have HB1 := Lib.hid hb1; clear hb1)
  have HB2 : Hid (Below w.heap.size w (w1.alloc (.cells #[.int .i64 3, .int .i64 32, .int .i64 4, .int .i64 2, .int .i64 1, .int .i64 1] 23))) := Lib.hid (HB1.out.alloc HB1.out.size _)
  have HS := Lib.hid (Blk.new w1 23 #[.int .i64 3, .int .i64 32, .int .i64 4, .int .i64 2, .int .i64 1, .int .i64 1])
  obtain ⟨S, hS⟩ : ∃ S, S = w1.heap.size := ⟨_, rfl⟩
  rw [← hS] at HS
  rw [← hS]
  generalize w1.alloc (.cells #[.int .i64 3, .int .i64 32, .int .i64 4, .int .i64 2, .int .i64 1, .int .i64 1] 23) = W at HB2 HS ⊢
  obtain ⟨t0, t1, t2, t3, t4, t5⟩ := HS.out.cells6
  obtain ⟨d0, d1, d2, d3, d4, d5⟩ := HS.out.drew.cells6
  clear hS
  have HU : Hid (Rd (W.alloc (.cells #[.int .u16 4] 56)) (some ⟨W.heap.size, 0, none⟩) (mus [4])) := Lib.hid (Rd.blk_all (xs := mus [4]) (Blk.new W 56 _))
  have HU2 : Hid (∀ o, Rd ((W.alloc o).alloc (.cells #[.int .u16 4] 56)) (some ⟨W.heap.size + 1, 0, none⟩) (mus [4])) := Lib.hid fun o => Rd.blk_all (xs := mus [4]) (Blk.new_ _ 56 _ (by simp))
  go_cut [2, 3] (fun p q wx => ∃ X A c ad d, p = .pointer (some ⟨X, 0, none⟩) ∧ q = .int .i64 0 ∧ AwR w wx X A c ad d)
  case first =>
    go_region_held3 (fun w' => w'.cell? ⟨S, 0, none⟩ = some (.int .i64 3) ∧ w'.cell? ⟨S, 1, none⟩ = some (.int .i64 32) ∧ w'.cell? ⟨S, 2, none⟩ = some (.int .i64 4) ∧ w'.cell? ⟨S, 3, none⟩ = some (.int .i64 2) ∧ w'.cell? ⟨S, 4, none⟩ = some (.int .i64 1) ∧ w'.cell? ⟨S, 5, none⟩ = some (.int .i64 1))
      (exact (HS.out.later (by (repeat' (first | (with_reducible exact Below.refl _ _) | (with_reducible exact Nat.le_refl _) | (with_reducible exact HW3.out) | (with_reducible exact HW3.out.size) | (with_reducible exact HW2.out) | (with_reducible exact HW2.out.size) | (with_reducible exact HW1.out) | (with_reducible exact HW1.out.size) | (with_reducible refine Below.drew ?_) | (with_reducible refine Below.alloc ?_ ?_ _) | (with_reducible refine Below.setCell ?_ ?_ _) | assumption | (exact Nat.le_of_lt (by assumption)) | (simp; done) | (simp; omega) | (have h9 := HW3.out.size; simp; omega) | (have h9 := HW2.out.size; simp; omega) | (have h9 := HW1.out.size; simp; omega))))).cells6)
      (first
        | (go_at_call 12; (with_reducible refine (awM _ _ _ (by first | exact HU.out.later (by (repeat' (first | (with_reducible exact Below.refl _ _) | (with_reducible exact Nat.le_refl _) | (with_reducible refine Below.drew ?_) | (with_reducible refine Below.alloc ?_ ?_ _) | (simp; done) | (simp; omega)))) | exact (HU2.out _).later (by (repeat' (first | (with_reducible exact Below.refl _ _) | (with_reducible exact Nat.le_refl _) | (with_reducible refine Below.drew ?_) | (with_reducible refine Below.alloc ?_ ?_ _) | (simp; done) | (simp; omega)))))).mono ?_); rintro e u1 ⟨⟨A1, c1, B1, e1, rfl, ra1, rb1⟩, hb1⟩; have HRA := Lib.hid ra1; have HRB := Lib.hid rb1; have HW1 : Hid (Below W.heap.size W u1) := Lib.hid (Below.trans (by (repeat' (first | (with_reducible exact Below.refl _ _) | (with_reducible exact Nat.le_refl _) | (with_reducible refine Below.drew ?_) | (with_reducible refine Below.alloc ?_ ?_ _) | (simp; done) | (simp; omega)))) (hb1.mono (by (repeat' (first | (with_reducible exact Below.refl _ _) | (with_reducible exact Nat.le_refl _) | (with_reducible refine Below.drew ?_) | (with_reducible refine Below.alloc ?_ ?_ _) | (simp; done) | (simp; omega)))))); obtain ⟨hc1, hf1⟩ := bcell_ hb1; have hz10 : W.heap.size < u1.heap.size := (by have h9 := hb1.size; (try simp at h9); omega); (try have hz11 : W.heap.size + 1 < u1.heap.size := (by have h9 := hb1.size; (try simp at h9); omega)); have HD1 := Lib.hid hb1; clear ra1 rb1 hb1)
        | (go_at_call 9; (with_reducible refine (awE _ _ _ _ _ (HRA.out.later (by (repeat' (first | (with_reducible exact Below.refl _ _) | (with_reducible exact Nat.le_refl _) | (with_reducible refine Below.drew ?_) | (with_reducible refine Below.alloc ?_ ?_ _) | (simp; done) | (simp; omega))))) (HRB.out.later (by (repeat' (first | (with_reducible exact Below.refl _ _) | (with_reducible exact Nat.le_refl _) | (with_reducible refine Below.drew ?_) | (with_reducible refine Below.alloc ?_ ?_ _) | (simp; done) | (simp; omega)))))).mono ?_); rintro e u2 ⟨⟨A2, c2, l2, rfl, g1, g2, g3, g4⟩, hb2⟩; have HG1 := Lib.hid g1; have HG2 := Lib.hid g2; have HG3 := Lib.hid g3; have HG4 := Lib.hid g4; have HW2 : Hid (Below W.heap.size W u2) := Lib.hid (Below.trans (by (repeat' (first | (with_reducible exact Below.refl _ _) | (with_reducible exact Nat.le_refl _) | (with_reducible exact HW1.out) | (with_reducible exact HW1.out.size) | (with_reducible refine Below.drew ?_) | (with_reducible refine Below.alloc ?_ ?_ _) | (simp; done) | (simp; omega) | (have h9 := HW1.out.size; simp; omega)))) (hb2.mono (by (repeat' (first | (with_reducible exact Below.refl _ _) | (with_reducible exact Nat.le_refl _) | (with_reducible exact HW1.out) | (with_reducible exact HW1.out.size) | (with_reducible refine Below.drew ?_) | (with_reducible refine Below.alloc ?_ ?_ _) | (simp; done) | (simp; omega) | (have h9 := HW1.out.size; simp; omega)))))); obtain ⟨hc2, hf2⟩ := bcell_ hb2; have hz20 : W.heap.size < u2.heap.size := (by have h9 := hb2.size; (try simp at h9); omega); (try have hz21 : u1.heap.size < u2.heap.size := (by have h9 := hb2.size; (try simp at h9); omega)); (try have hz22 : W.heap.size + 1 < u2.heap.size := (by have h9 := hb2.size; (try simp at h9); omega)); have HD2 := Lib.hid hb2; clear g1 g2 g3 g4 hb2)
        | (go_at_call 10; (with_reducible refine (awD _ _ _ _ HG1.out (HG2.out.later (by (repeat' (first | (with_reducible exact Below.refl _ _) | (with_reducible exact Nat.le_refl _) | (with_reducible refine Below.drew ?_) | (with_reducible refine Below.alloc ?_ ?_ _) | (simp; done) | (simp; omega))))) (HG3.out.later (by (repeat' (first | (with_reducible exact Below.refl _ _) | (with_reducible exact Nat.le_refl _) | (with_reducible refine Below.drew ?_) | (with_reducible refine Below.alloc ?_ ?_ _) | (simp; done) | (simp; omega))))) HG4.out).mono ?_); rintro e u3 ⟨⟨A3, c3, B3, d3, rfl, ad, rfl, k1, k2⟩, hb3⟩; have HK := Lib.hid k1; have HK2 := Lib.hid k2; have HW3 : Hid (Below W.heap.size W u3) := Lib.hid (Below.trans (by (repeat' (first | (with_reducible exact Below.refl _ _) | (with_reducible exact Nat.le_refl _) | (with_reducible exact HW2.out) | (with_reducible exact HW2.out.size) | (with_reducible refine Below.drew ?_) | (with_reducible refine Below.alloc ?_ ?_ _) | (simp; done) | (simp; omega) | (have h9 := HW2.out.size; simp; omega)))) (hb3.mono (by (repeat' (first | (with_reducible exact Below.refl _ _) | (with_reducible exact Nat.le_refl _) | (with_reducible exact HW2.out) | (with_reducible exact HW2.out.size) | (with_reducible refine Below.drew ?_) | (with_reducible refine Below.alloc ?_ ?_ _) | (simp; done) | (simp; omega) | (have h9 := HW2.out.size; simp; omega)))))); obtain ⟨hc3, hf3⟩ := bcell_ hb3; have HC3 := Lib.hid hb3.size; have HD3 := Lib.hid hb3; have hkl : (ad.add 0).block < u3.heap.size := World.block_lt_of_cell? _ _ HK.out; rw [block_of_add] at hkl; have HKL := Lib.hid hkl; clear hkl k1 k2 hb3))
    all_goals
      go_wp2_with fail
      go_meet
      refine ⟨_, A3, c3, ad, d3, rfl, rfl, ?_, ?_, HB2.out.trans (Below.mono (B := W.heap.size) ?_ HB2.out.size)⟩
      · (repeat' (first
          | ((with_reducible refine Blk.new_ _ _ _ ?_) <;> (simp <;> omega)) | ((with_reducible refine Has5.new ?_) <;> (simp <;> omega))
          | (with_reducible refine Blk.set5e ?_) | (with_reducible refine Blk.alloc ?_ _) | (with_reducible refine Blk.drew ?_) | (with_reducible refine Has5.alloc ?_ _) | (with_reducible refine Has5.drew ?_)
          | (with_reducible refine Has5.later ?_ HD3.out) | (with_reducible refine Has5.later ?_ HD2.out) | (with_reducible refine Has5.later ?_ HD1.out)))
      · have hk2 := HK2.out
        have hkl := HKL.out
        (repeat' (first
          | (with_reducible exact HK.out)
          | (with_reducible refine cell_drew ?_) | (with_reducible refine cell_alloc ?_ _) | (with_reducible refine cell_set5 ?_ ?_) | (rw [block_of_add]; (try simp at hk2); omega)))
      · (repeat' (first | (with_reducible exact Below.refl _ _) | (with_reducible exact Nat.le_refl _) | (with_reducible exact HW3.out) | (with_reducible exact HW3.out.size) | (with_reducible exact HW2.out) | (with_reducible exact HW2.out.size) | (with_reducible exact HW1.out) | (with_reducible exact HW1.out.size) | (with_reducible refine Below.drew ?_) | (with_reducible refine Below.alloc ?_ ?_ _) | (with_reducible refine Below.setCell ?_ ?_ _) | assumption | (exact Nat.le_of_lt (by assumption)) | (simp; done) | (simp; omega) | (have h9 := HW3.out.size; simp; omega) | (have h9 := HW2.out.size; simp; omega) | (have h9 := HW1.out.size; simp; omega)))
  case rest =>
    obtain ⟨X, A, c, ad, d, rfl, rfl, hR⟩ := hcut
    obtain ⟨m0, m1, m2, m3, m4⟩ := hR.im.cells5
    have a0 := hR.el
    have a1 : wc.cell? ad = some (.int .i64 3) := by
      have e : ad.add 0 = ad := by cases ad; rfl
      rw [e] at a0
      exact a0
    have HR := Lib.hid hR
    clear hR
    go_wp2_with (go_at_call 20; (with_reducible refine (HA5.out _).mono ?_); rintro e w9 ⟨rfl, hb9⟩; have HB9 := Lib.hid (HR.out.bel.trans (hb9.mono HR.out.bel.size)); clear hb9)
    go_ret
    exact ⟨rfl, HB9.out⟩
end Go.Proofs.Ytcpngnnnggpfpaa
