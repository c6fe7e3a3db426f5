/- one: what a page carries, or why it is none. No further condition. -/
import Derived.Test.YtcpngnnnggpfpaaIe
namespace Go.Proofs.Ytcpngnnnggpfpaa
open Go.RowKit
attribute [local go_sem ↓] Go.wp_at_zero Go.wp_at_succ

/-! ### plain -/
def headB (gen i : Nat) (ys : List Int) : Bool := decide (nf ys 0 1 = 80) && decide (nf ys 1 8 = gen) && decide (nf ys 9 2 = i)
def oneC (gen g i : Nat) (b : List Int) : Int :=
  if b.length = g + 15 then (if num (b.drop (g + 11)) = cs (b.take (g + 11)) then (if headB gen i (b.take (g + 11)) = true then 0 else 4) else 5) else 6
def restL (g : Nat) (b : List Int) : List Int := (b.take (g + 11)).drop 11
theorem restL_len {g : Nat} {b : List Int} (h : b.length = g + 15) : (restL g b).length = g := by unfold restL; rw [List.length_drop, List.length_take]; omega

/-! ### a reader since a world -/
structure Ro (w0 w : World) (g h : Nat) (zs : List Int) : Prop where
  re : Re w g h zs false
  bel : Below w0.heap.size w0 w
  far : w0.heap.size ≤ g
section
variable {w0 w w' : World} {g h : Nat} {zs ys : List Int}
theorem Ro.later (k : Ro w0 w g h zs) (hb : Below w.heap.size w w') : Ro w0 w' g h zs := ⟨k.re.later hb, k.bel.trans (hb.mono k.bel.size), k.far⟩
theorem takeO {i : Nat} (k : Ro w0 w g h (ys.drop i)) (n : Nat) (z : Int) (hz : z = n) (hn : i + n ≤ ys.length) (hy : ys.length ≤ 1000000) (ho : Oct ys) :
    Calls Try.prog 34 #[.pointer (some ⟨g, 0, none⟩), .int .i64 z] w fun e w' => e = .returned (.int .u64 (nf ys i n)) ∧ Ro w0 w' g h (ys.drop (i + n)) := by
  subst hz
  refine (take_ok g h (ys.drop i) n w k.re (by rw [List.length_drop]; omega) (by rw [List.length_drop]; omega) (ho.drop i)).mono ?_
  rintro e w' ⟨rfl, h1, h2⟩
  rw [nf_cast ho i n]
  rw [List.drop_drop] at h1
  exact ⟨rfl, h1, k.bel.trans (h2.toBelow k.bel.size fun b hb e => by have := k.far; omega), k.far⟩
end
/-- Behind a call: bytes, and an error's number. -/
def PgRes (w' : World) (e : Ending) (xs : List Int) (code : Int) : Prop := ∃ A c, e = .returned (.tuple #[.slice A xs.length c, .int .i64 code]) ∧ Rd w' A (byv xs)
set_option maxRecDepth 100000 in
set_option maxHeartbeats 6400000 in
theorem one_ok (x : Sh) (gen g i : Nat) (b : List Int) (A : Option Addr) (c : Nat) (w : World) (hxb : x.b = (g : Int) + 15) (hg : 1 ≤ g ∧ g ≤ 1000) (hi : i < 65536) (hr : Rd w A (byv b)) (ho : Oct b) (hc : b.length ≤ c) :
    Calls Try.prog 32 #[.agg #[.int .i64 x.m, .int .i64 x.b, .int .i64 x.s, .int .i64 x.t, .int .i64 x.n, .int .i64 x.l], .int .u64 gen, .int .i64 i, .slice A b.length c] w fun e w' =>
      PgRes w' e (if oneC gen g i b = 0 then restL g b else []) (oneC gen g i b) ∧ Below w.heap.size w w' := by
  have s1 := (Blk.new w 23 #[.int .i64 x.m, .int .i64 x.b, .int .i64 x.s, .int .i64 x.t, .int .i64 x.n, .int .i64 x.l]).at_ (i := 1) rfl
  rw [hxb] at s1 ⊢
  have HB0 : Hid (Below w.heap.size w (w.alloc (.cells #[.int .i64 x.m, .int .i64 ((g : Int) + 15), .int .i64 x.s, .int .i64 x.t, .int .i64 x.n, .int .i64 x.l] 23))) := Lib.hid ((Below.refl _ _).alloc (Nat.le_refl _) _)
  by_cases hl : b.length = g + 15
  · obtain ⟨ys, hys⟩ : ∃ ys, ys = b.take (g + 11) := ⟨_, rfl⟩
    obtain ⟨ts, hts⟩ : ∃ ts, ts = b.drop (g + 11) := ⟨_, rfl⟩
    have hb : b = ys ++ ts := by rw [hys, hts, List.take_append_drop]
    have hyl : ys.length = g + 11 := by rw [hys, List.length_take]; omega
    have htl : ts.length = 4 := by rw [hts, List.length_drop]; omega
    have hyo : Oct ys := by rw [hys]; exact ho.take _
    have hto : Oct ts := by rw [hts]; exact ho.drop _
    have hcode : oneC gen g i b = if num ts = cs ys then (if headB gen i ys = true then 0 else 4) else 5 := by unfold oneC; rw [if_pos hl, ← hys, ← hts]
    have hrest : restL g b = ys.drop 11 := by unfold restL; rw [← hys]
    have hop := fun W (h : Rd W A (byv (ys ++ ts))) => open_any A c ys ts W h (by omega) hyo hto htl (by omega)
    rw [hyl] at hop
    have hd0 : ((b.length : Int) != (g : Int) + 15) = false := by rw [hl]; simp
    have HR : Hid (∀ W, Below w.heap.size w W → Rd W A (byv (ys ++ ts))) := Lib.hid fun W h => by rw [← hb]; exact hr.later h
    have HOP := Lib.hid hop
    have HYO := Lib.hid hyo
    have HYL := Lib.hid hyl
    rw [hcode, hrest, hl]
    clear hys hts hb hyl htl hyo hto hcode hrest hop hl hr ho hc hd0
    by_cases hs : num ts = cs ys
    · rw [if_pos hs] at HOP ⊢
      have hrr2 : Hid (∀ w' r, (if num ts = cs ys then w'.ownsRow (w.alloc (.cells #[.int .i64 x.m, .int .i64 ((g : Int) + 15), .int .i64 x.s, .int .i64 x.t, .int .i64 x.n, .int .i64 x.l] 23)).heap.size 5 1 r (g + 11) (byv ys) else r = .slice none 0 0) → ∃ A2 c2, r = .slice A2 (g + 11) c2 ∧ Rd w' A2 (byv ys)) := Lib.hid fun w' r h => by
        rw [if_pos hs] at h
        obtain ⟨A2, c2, rfl, hr2, -, -⟩ := own_formc h
        exact ⟨A2, c2, rfl, hr2⟩
      have hrd : ∀ W A2 c2, Rd W A2 (byv ys) → Calls Try.prog 33 #[.slice A2 (g + 11) c2] W fun e w' => ∃ G h, e = .returned (.pointer (some ⟨G, 0, none⟩)) ∧ (∀ w0 : World, w0.heap.size ≤ W.heap.size → Below w0.heap.size w0 W → Ro w0 w' G h (ys.drop 0)) := fun W A2 c2 h => by
        have h1 := read_ok A2 c2 ys W h (by rw [HYL.out]; omega)
        rw [HYL.out] at h1
        refine h1.mono ?_
        rintro e w' ⟨G, hh, rfl, hG, hH, hre, hb⟩
        exact ⟨G, hh, rfl, fun w0 h0 h2 => ⟨hre, h2.trans (hb.mono h0), Nat.le_trans h0 hG⟩⟩
      have HRD := Lib.hid hrd
      have hy1 : ys.length ≤ 1000000 := by rw [HYL.out]; omega
      have h01 : 0 + 1 ≤ ys.length := by rw [HYL.out]; omega
      have h18 : 1 + 8 ≤ ys.length := by rw [HYL.out]; omega
      have h92 : 9 + 2 ≤ ys.length := by rw [HYL.out]; omega
      have m6 : IntKind.u64.wrap (i : Int) = i := by rw [IntKind.wrap_u64]; omega
      obtain ⟨n1, hn1⟩ : ∃ n1, n1 = nf ys 0 1 := ⟨_, rfl⟩
      obtain ⟨n2, hn2⟩ : ∃ n2, n2 = nf ys 1 8 := ⟨_, rfl⟩
      obtain ⟨n3, hn3⟩ : ∃ n3, n3 = nf ys 9 2 := ⟨_, rfl⟩
      have hhead : headB gen i ys = (decide (n1 = 80) && decide (n2 = gen) && decide (n3 = i)) := by unfold headB; rw [hn1, hn2, hn3]
      have HT1 : Hid (∀ W w0 G h, Ro w0 W G h (ys.drop 0) → Calls Try.prog 34 #[.pointer (some ⟨G, 0, none⟩), .int .i64 1] W fun e w' => e = .returned (.int .u64 n1) ∧ Ro w0 w' G h (ys.drop 1)) := Lib.hid fun W w0 G h k => by rw [hn1]; exact takeO k 1 1 rfl h01 hy1 HYO.out
      have HT2 : Hid (∀ W w0 G h, Ro w0 W G h (ys.drop 1) → Calls Try.prog 34 #[.pointer (some ⟨G, 0, none⟩), .int .i64 8] W fun e w' => e = .returned (.int .u64 n2) ∧ Ro w0 w' G h (ys.drop 9)) := Lib.hid fun W w0 G h k => by rw [hn2]; exact takeO k 8 8 rfl h18 hy1 HYO.out
      have HT3 : Hid (∀ W w0 G h, Ro w0 W G h (ys.drop 9) → Calls Try.prog 34 #[.pointer (some ⟨G, 0, none⟩), .int .i64 2] W fun e w' => e = .returned (.int .u64 n3) ∧ Ro w0 w' G h (ys.drop 11)) := Lib.hid fun W w0 G h k => by rw [hn3]; exact takeO k 2 2 rfl h92 hy1 HYO.out
      have HRS : Hid (∀ W w0 G h, Ro w0 W G h (ys.drop 11) → Calls Try.prog 36 #[.pointer (some ⟨G, 0, none⟩)] W fun e w' => (∃ A c, e = .returned (.slice A (ys.drop 11).length c) ∧ Rd w' A (byv (ys.drop 11))) ∧ Below w0.heap.size w0 w') := Lib.hid fun W w0 G h k => (rest_ok G h (ys.drop 11) W k.re (by rw [List.length_drop]; omega)).mono fun e w' ⟨r, he, ho, hb⟩ => by
        obtain ⟨A5, c5, rfl, hr5, -, -⟩ := own_formc ho
        exact ⟨⟨A5, c5, he, hr5⟩, k.bel.trans (hb.mono k.bel.size)⟩
      rw [hhead]
      clear hn1 hn2 hn3 hhead hrd h01 h18 h92 hy1
      generalize ys.drop 11 = rs at HRS HT3 ⊢
      by_cases e1 : n1 = 80
      · have d1 : ((n1 : Int) != 80) = false := by rw [e1]; rfl
        have d1' : ((n1 : Int) == 80) = true := by rw [e1]; rfl
        by_cases e2 : n2 = gen
        · have d2 : ((n2 : Int) != (gen : Int)) = false := by rw [e2]; simp
          have d2' : ((n2 : Int) == (gen : Int)) = true := by rw [e2]; simp
          by_cases e3 : n3 = i
          · have d3 : ((n3 : Int) != (i : Int)) = false := by rw [e3]; simp
            have d3' : ((n3 : Int) == (i : Int)) = true := by rw [e3]; simp
            rw [decide_eq_true e1, decide_eq_true e2, decide_eq_true e3, if_pos (show (true && true && true) = true from rfl), if_pos rfl]
            clear e1 e2 e3
            go_enter Try.func32, Try.ntmps32
            go_wp2_with (first
        | (go_at_call 47; (with_reducible refine (HOP.out _ (HR.out _ HB0.out)).mono ?_); rintro e w1 ⟨⟨r, rfl, hrr⟩, hb1⟩; have HB1 := Lib.hid (HB0.out.trans (hb1.mono HB0.out.size)); obtain ⟨A2, c2, rfl, hr2⟩ := hrr2.out _ _ hrr; have HR2 := Lib.hid hr2; clear hrr hr2 hb1)
        | (go_at_call 33; (with_reducible refine (HRD.out _ A2 c2 HR2.out).mono ?_); rintro e w2 ⟨G, h, rfl, hro⟩; have HRO0 := Lib.hid (hro w HB1.out.size HB1.out); clear hro)
        | (go_at_call 34; (with_reducible refine (HT1.out _ _ _ _ HRO0.out).mono ?_); rintro e w3 ⟨rfl, hk3⟩; have HRO1 := Lib.hid hk3; clear hk3)
        | (go_at_call 34; (with_reducible refine (HT2.out _ _ _ _ HRO1.out).mono ?_); rintro e w4 ⟨rfl, hk4⟩; have HRO2 := Lib.hid hk4; clear hk4)
        | (go_at_call 34; (with_reducible refine (HT3.out _ _ _ _ HRO2.out).mono ?_); rintro e w5 ⟨rfl, hk5⟩; have HRO3 := Lib.hid hk5; clear hk5)
        | (go_at_call 36; (with_reducible refine (HRS.out _ _ _ _ HRO3.out).mono ?_); rintro e w6 ⟨⟨A6, c6, rfl, hr6⟩, hb6⟩; have HR6 := Lib.hid hr6; have HB6 := Lib.hid hb6; clear hr6 hb6)
        | fail "no")
            go_ret2
            exact ⟨⟨A6, c6, rfl, HR6.out⟩, HB6.out⟩
          · have d3 : ((n3 : Int) != (i : Int)) = true := bne_iff_ne.2 (by omega)
            have d3' : ((n3 : Int) == (i : Int)) = false := beq_eq_false_iff_ne.2 (by omega)
            rw [show (decide (n1 = 80) && decide (n2 = gen) && decide (n3 = i)) = false by simp [e3], if_neg (by decide), if_neg (by decide)]
            go_enter Try.func32, Try.ntmps32
            go_wp2_with (first
        | (go_at_call 47; (with_reducible refine (HOP.out _ (HR.out _ HB0.out)).mono ?_); rintro e w1 ⟨⟨r, rfl, hrr⟩, hb1⟩; have HB1 := Lib.hid (HB0.out.trans (hb1.mono HB0.out.size)); obtain ⟨A2, c2, rfl, hr2⟩ := hrr2.out _ _ hrr; have HR2 := Lib.hid hr2; clear hrr hr2 hb1)
        | (go_at_call 33; (with_reducible refine (HRD.out _ A2 c2 HR2.out).mono ?_); rintro e w2 ⟨G, h, rfl, hro⟩; have HRO0 := Lib.hid (hro w HB1.out.size HB1.out); clear hro)
        | (go_at_call 34; (with_reducible refine (HT1.out _ _ _ _ HRO0.out).mono ?_); rintro e w3 ⟨rfl, hk3⟩; have HRO1 := Lib.hid hk3; clear hk3)
        | (go_at_call 34; (with_reducible refine (HT2.out _ _ _ _ HRO1.out).mono ?_); rintro e w4 ⟨rfl, hk4⟩; have HRO2 := Lib.hid hk4; clear hk4)
        | (go_at_call 34; (with_reducible refine (HT3.out _ _ _ _ HRO2.out).mono ?_); rintro e w5 ⟨rfl, hk5⟩; have HRO3 := Lib.hid hk5; clear hk5)
        | (go_at_call 36; (with_reducible refine (HRS.out _ _ _ _ HRO3.out).mono ?_); rintro e w6 ⟨⟨A6, c6, rfl, hr6⟩, hb6⟩; have HR6 := Lib.hid hr6; have HB6 := Lib.hid hb6; clear hr6 hb6)
        | fail "no")
            go_ret2
            exact ⟨⟨none, 0, rfl, Rd.nil _ _⟩, HRO3.out.bel⟩
        · have d2 : ((n2 : Int) != (gen : Int)) = true := bne_iff_ne.2 (by omega)
          have d2' : ((n2 : Int) == (gen : Int)) = false := beq_eq_false_iff_ne.2 (by omega)
          rw [show (decide (n1 = 80) && decide (n2 = gen) && decide (n3 = i)) = false by simp [e2], if_neg (by decide), if_neg (by decide)]
          go_enter Try.func32, Try.ntmps32
          go_wp2_with (first
        | (go_at_call 47; (with_reducible refine (HOP.out _ (HR.out _ HB0.out)).mono ?_); rintro e w1 ⟨⟨r, rfl, hrr⟩, hb1⟩; have HB1 := Lib.hid (HB0.out.trans (hb1.mono HB0.out.size)); obtain ⟨A2, c2, rfl, hr2⟩ := hrr2.out _ _ hrr; have HR2 := Lib.hid hr2; clear hrr hr2 hb1)
        | (go_at_call 33; (with_reducible refine (HRD.out _ A2 c2 HR2.out).mono ?_); rintro e w2 ⟨G, h, rfl, hro⟩; have HRO0 := Lib.hid (hro w HB1.out.size HB1.out); clear hro)
        | (go_at_call 34; (with_reducible refine (HT1.out _ _ _ _ HRO0.out).mono ?_); rintro e w3 ⟨rfl, hk3⟩; have HRO1 := Lib.hid hk3; clear hk3)
        | (go_at_call 34; (with_reducible refine (HT2.out _ _ _ _ HRO1.out).mono ?_); rintro e w4 ⟨rfl, hk4⟩; have HRO2 := Lib.hid hk4; clear hk4)
        | (go_at_call 34; (with_reducible refine (HT3.out _ _ _ _ HRO2.out).mono ?_); rintro e w5 ⟨rfl, hk5⟩; have HRO3 := Lib.hid hk5; clear hk5)
        | (go_at_call 36; (with_reducible refine (HRS.out _ _ _ _ HRO3.out).mono ?_); rintro e w6 ⟨⟨A6, c6, rfl, hr6⟩, hb6⟩; have HR6 := Lib.hid hr6; have HB6 := Lib.hid hb6; clear hr6 hb6)
        | fail "no")
          go_ret2
          exact ⟨⟨none, 0, rfl, Rd.nil _ _⟩, HRO2.out.bel⟩
      · have d1 : ((n1 : Int) != 80) = true := bne_iff_ne.2 (by omega)
        have d1' : ((n1 : Int) == 80) = false := beq_eq_false_iff_ne.2 (by omega)
        rw [show (decide (n1 = 80) && decide (n2 = gen) && decide (n3 = i)) = false by simp [e1], if_neg (by decide), if_neg (by decide)]
        go_enter Try.func32, Try.ntmps32
        go_wp2_with (first
        | (go_at_call 47; (with_reducible refine (HOP.out _ (HR.out _ HB0.out)).mono ?_); rintro e w1 ⟨⟨r, rfl, hrr⟩, hb1⟩; have HB1 := Lib.hid (HB0.out.trans (hb1.mono HB0.out.size)); obtain ⟨A2, c2, rfl, hr2⟩ := hrr2.out _ _ hrr; have HR2 := Lib.hid hr2; clear hrr hr2 hb1)
        | (go_at_call 33; (with_reducible refine (HRD.out _ A2 c2 HR2.out).mono ?_); rintro e w2 ⟨G, h, rfl, hro⟩; have HRO0 := Lib.hid (hro w HB1.out.size HB1.out); clear hro)
        | (go_at_call 34; (with_reducible refine (HT1.out _ _ _ _ HRO0.out).mono ?_); rintro e w3 ⟨rfl, hk3⟩; have HRO1 := Lib.hid hk3; clear hk3)
        | (go_at_call 34; (with_reducible refine (HT2.out _ _ _ _ HRO1.out).mono ?_); rintro e w4 ⟨rfl, hk4⟩; have HRO2 := Lib.hid hk4; clear hk4)
        | (go_at_call 34; (with_reducible refine (HT3.out _ _ _ _ HRO2.out).mono ?_); rintro e w5 ⟨rfl, hk5⟩; have HRO3 := Lib.hid hk5; clear hk5)
        | (go_at_call 36; (with_reducible refine (HRS.out _ _ _ _ HRO3.out).mono ?_); rintro e w6 ⟨⟨A6, c6, rfl, hr6⟩, hb6⟩; have HR6 := Lib.hid hr6; have HB6 := Lib.hid hb6; clear hr6 hb6)
        | fail "no")
        go_ret2
        exact ⟨⟨none, 0, rfl, Rd.nil _ _⟩, HRO1.out.bel⟩
    · rw [if_neg hs] at HOP ⊢
      rw [if_neg (by decide)]
      go_enter Try.func32, Try.ntmps32
      go_wp2_with (first
        | (go_at_call 47; (with_reducible refine (HOP.out _ (HR.out _ HB0.out)).mono ?_); rintro e w1 ⟨⟨r, rfl, hrr⟩, hb1⟩; rw [if_neg hs] at hrr; subst hrr; have HB1 := Lib.hid (HB0.out.trans (hb1.mono HB0.out.size)); clear hb1)
        | fail "no")
      go_ret2
      exact ⟨⟨none, 0, rfl, Rd.nil _ _⟩, HB1.out⟩
  · have hcode : oneC gen g i b = 6 := by unfold oneC; rw [if_neg hl]
    rw [hcode, if_neg (by decide)]
    have hd1 : ((b.length : Int) != (g : Int) + 15) = true := bne_iff_ne.2 (by omega)
    have hd2 : ((b.length : Int) == (g : Int) + 15) = false := beq_eq_false_iff_ne.2 (by omega)
    clear hr ho hc hl hcode
    go_enter Try.func32, Try.ntmps32
    go_wp2
    go_ret2
    exact ⟨⟨none, 0, rfl, Rd.nil _ _⟩, HB0.out⟩
end Go.Proofs.Ytcpngnnnggpfpaa
