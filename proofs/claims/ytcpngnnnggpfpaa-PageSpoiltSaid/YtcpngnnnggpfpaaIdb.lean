/- one: what a page carries, or why it is none. Decode: the words. Decode: the walk. Decode of as many pages as there are. No further condition. -/
import Derived.Test.YtcpngnnnggpfpaaIe
namespace Go.Proofs.Ytcpngnnnggpfpaa
open Go.RowKit
attribute [local go_sem ↓] Go.wp_at_zero Go.wp_at_succ

/-! ### plain -/
def headB (gen i : Nat) (ys : List Int) : Bool := decide (nf ys 0 1 = 80) && decide (nf ys 1 8 = gen) && decide (nf ys 9 2 = i)
def oneC (gen g i : Nat) (b : List Int) : Int :=
  if b.length = g + 15 then (if num (b.drop (g + 11)) = cs (b.take (g + 11)) then (if headB gen i (b.take (g + 11)) = true then 0 else 4) else 5) else 6
def restL (g : Nat) (b : List Int) : List Int := (b.take (g + 11)).drop 11
theorem restL_len {g : Nat} {b : List Int} (h : b.length = g + 15) : (restL g b).length = g := by unfold restL; rw [List.length_drop, List.length_take]; omega

/-! ### a reader since a world -/
structure Ro (w0 w : World) (g h : Nat) (zs : List Int) : Prop where
  re : Re w g h zs false
  bel : Below w0.heap.size w0 w
  far : w0.heap.size ≤ g
section
variable {w0 w w' : World} {g h : Nat} {zs ys : List Int}
theorem Ro.later (k : Ro w0 w g h zs) (hb : Below w.heap.size w w') : Ro w0 w' g h zs := ⟨k.re.later hb, k.bel.trans (hb.mono k.bel.size), k.far⟩
theorem takeO {i : Nat} (k : Ro w0 w g h (ys.drop i)) (n : Nat) (z : Int) (hz : z = n) (hn : i + n ≤ ys.length) (hy : ys.length ≤ 1000000) (ho : Oct ys) :
    Calls Try.prog 34 #[.pointer (some ⟨g, 0, none⟩), .int .i64 z] w fun e w' => e = .returned (.int .u64 (nf ys i n)) ∧ Ro w0 w' g h (ys.drop (i + n)) := by
  subst hz
  refine (take_ok g h (ys.drop i) n w k.re (by rw [List.length_drop]; omega) (by rw [List.length_drop]; omega) (ho.drop i)).mono ?_
  rintro e w' ⟨rfl, h1, h2⟩
  rw [nf_cast ho i n]
  rw [List.drop_drop] at h1
  exact ⟨rfl, h1, k.bel.trans (h2.toBelow k.bel.size fun b hb e => by have := k.far; omega), k.far⟩
end
/-- Behind a call: bytes, and an error's number. -/
def PgRes (w' : World) (e : Ending) (xs : List Int) (code : Int) : Prop := ∃ A c, e = .returned (.tuple #[.slice A xs.length c, .int .i64 code]) ∧ Rd w' A (byv xs)
set_option maxRecDepth 100000 in
set_option maxHeartbeats 6400000 in
theorem one_ok (x : Sh) (gen g i : Nat) (b : List Int) (A : Option Addr) (c : Nat) (w : World) (hxb : x.b = (g : Int) + 15) (hg : 1 ≤ g ∧ g ≤ 1000) (hi : i < 65536) (hr : Rd w A (byv b)) (ho : Oct b) (hc : b.length ≤ c) :
    Calls Try.prog 32 #[.agg #[.int .i64 x.m, .int .i64 x.b, .int .i64 x.s, .int .i64 x.t, .int .i64 x.n, .int .i64 x.l], .int .u64 gen, .int .i64 i, .slice A b.length c] w fun e w' =>
      PgRes w' e (if oneC gen g i b = 0 then restL g b else []) (oneC gen g i b) ∧ Below w.heap.size w w' := by
  have s1 := (Blk.new w 23 #[.int .i64 x.m, .int .i64 x.b, .int .i64 x.s, .int .i64 x.t, .int .i64 x.n, .int .i64 x.l]).at_ (i := 1) rfl
  rw [hxb] at s1 ⊢
  have HB0 : Hid (Below w.heap.size w (w.alloc (.cells #[.int .i64 x.m, .int .i64 ((g : Int) + 15), .int .i64 x.s, .int .i64 x.t, .int .i64 x.n, .int .i64 x.l] 23))) := Lib.hid ((Below.refl _ _).alloc (Nat.le_refl _) _)
  by_cases hl : b.length = g + 15
  · obtain ⟨ys, hys⟩ : ∃ ys, ys = b.take (g + 11) := ⟨_, rfl⟩
    obtain ⟨ts, hts⟩ : ∃ ts, ts = b.drop (g + 11) := ⟨_, rfl⟩
    have hb : b = ys ++ ts := by rw [hys, hts, List.take_append_drop]
    have hyl : ys.length = g + 11 := by rw [hys, List.length_take]; omega
    have htl : ts.length = 4 := by rw [hts, List.length_drop]; omega
    have hyo : Oct ys := by rw [hys]; exact ho.take _
    have hto : Oct ts := by rw [hts]; exact ho.drop _
    have hcode : oneC gen g i b = if num ts = cs ys then (if headB gen i ys = true then 0 else 4) else 5 := by unfold oneC; rw [if_pos hl, ← hys, ← hts]
    have hrest : restL g b = ys.drop 11 := by unfold restL; rw [← hys]
    have hop := fun W (h : Rd W A (byv (ys ++ ts))) => open_any A c ys ts W h (by omega) hyo hto htl (by omega)
    rw [hyl] at hop
    have hd0 : ((b.length : Int) != (g : Int) + 15) = false := by rw [hl]; simp
    have HR : Hid (∀ W, Below w.heap.size w W → Rd W A (byv (ys ++ ts))) := Lib.hid fun W h => by rw [← hb]; exact hr.later h
    have HOP := Lib.hid hop
    have HYO := Lib.hid hyo
    have HYL := Lib.hid hyl
    rw [hcode, hrest, hl]
    clear hys hts hb hyl htl hyo hto hcode hrest hop hl hr ho hc hd0
    by_cases hs : num ts = cs ys
    · rw [if_pos hs] at HOP ⊢
      have hrr2 : Hid (∀ w' r, (if num ts = cs ys then w'.ownsRow (w.alloc (.cells #[.int .i64 x.m, .int .i64 ((g : Int) + 15), .int .i64 x.s, .int .i64 x.t, .int .i64 x.n, .int .i64 x.l] 23)).heap.size 5 1 r (g + 11) (byv ys) else r = .slice none 0 0) → ∃ A2 c2, r = .slice A2 (g + 11) c2 ∧ Rd w' A2 (byv ys)) := Lib.hid fun w' r h => by
        rw [if_pos hs] at h
        obtain ⟨A2, c2, rfl, hr2, -, -⟩ := own_formc h
        exact ⟨A2, c2, rfl, hr2⟩
      have hrd : ∀ W A2 c2, Rd W A2 (byv ys) → Calls Try.prog 33 #[.slice A2 (g + 11) c2] W fun e w' => ∃ G h, e = .returned (.pointer (some ⟨G, 0, none⟩)) ∧ (∀ w0 : World, w0.heap.size ≤ W.heap.size → Below w0.heap.size w0 W → Ro w0 w' G h (ys.drop 0)) := fun W A2 c2 h => by
        have h1 := read_ok A2 c2 ys W h (by rw [HYL.out]; omega)
        rw [HYL.out] at h1
        refine h1.mono ?_
        rintro e w' ⟨G, hh, rfl, hG, hH, hre, hb⟩
        exact ⟨G, hh, rfl, fun w0 h0 h2 => ⟨hre, h2.trans (hb.mono h0), Nat.le_trans h0 hG⟩⟩
      have HRD := Lib.hid hrd
      have hy1 : ys.length ≤ 1000000 := by rw [HYL.out]; omega
      have h01 : 0 + 1 ≤ ys.length := by rw [HYL.out]; omega
      have h18 : 1 + 8 ≤ ys.length := by rw [HYL.out]; omega
      have h92 : 9 + 2 ≤ ys.length := by rw [HYL.out]; omega
      have m6 : IntKind.u64.wrap (i : Int) = i := by rw [IntKind.wrap_u64]; omega
      obtain ⟨n1, hn1⟩ : ∃ n1, n1 = nf ys 0 1 := ⟨_, rfl⟩
      obtain ⟨n2, hn2⟩ : ∃ n2, n2 = nf ys 1 8 := ⟨_, rfl⟩
      obtain ⟨n3, hn3⟩ : ∃ n3, n3 = nf ys 9 2 := ⟨_, rfl⟩
      have hhead : headB gen i ys = (decide (n1 = 80) && decide (n2 = gen) && decide (n3 = i)) := by unfold headB; rw [hn1, hn2, hn3]
      have HT1 : Hid (∀ W w0 G h, Ro w0 W G h (ys.drop 0) → Calls Try.prog 34 #[.pointer (some ⟨G, 0, none⟩), .int .i64 1] W fun e w' => e = .returned (.int .u64 n1) ∧ Ro w0 w' G h (ys.drop 1)) := Lib.hid fun W w0 G h k => by rw [hn1]; exact takeO k 1 1 rfl h01 hy1 HYO.out
      have HT2 : Hid (∀ W w0 G h, Ro w0 W G h (ys.drop 1) → Calls Try.prog 34 #[.pointer (some ⟨G, 0, none⟩), .int .i64 8] W fun e w' => e = .returned (.int .u64 n2) ∧ Ro w0 w' G h (ys.drop 9)) := Lib.hid fun W w0 G h k => by rw [hn2]; exact takeO k 8 8 rfl h18 hy1 HYO.out
      have HT3 : Hid (∀ W w0 G h, Ro w0 W G h (ys.drop 9) → Calls Try.prog 34 #[.pointer (some ⟨G, 0, none⟩), .int .i64 2] W fun e w' => e = .returned (.int .u64 n3) ∧ Ro w0 w' G h (ys.drop 11)) := Lib.hid fun W w0 G h k => by rw [hn3]; exact takeO k 2 2 rfl h92 hy1 HYO.out
      have HRS : Hid (∀ W w0 G h, Ro w0 W G h (ys.drop 11) → Calls Try.prog 36 #[.pointer (some ⟨G, 0, none⟩)] W fun e w' => (∃ A c, e = .returned (.slice A (ys.drop 11).length c) ∧ Rd w' A (byv (ys.drop 11))) ∧ Below w0.heap.size w0 w') := Lib.hid fun W w0 G h k => (rest_ok G h (ys.drop 11) W k.re (by rw [List.length_drop]; omega)).mono fun e w' ⟨r, he, ho, hb⟩ => by
        obtain ⟨A5, c5, rfl, hr5, -, -⟩ := own_formc ho
        exact ⟨⟨A5, c5, he, hr5⟩, k.bel.trans (hb.mono k.bel.size)⟩
      rw [hhead]
      clear hn1 hn2 hn3 hhead hrd h01 h18 h92 hy1
      generalize ys.drop 11 = rs at HRS HT3 ⊢
      by_cases e1 : n1 = 80
      · have d1 : ((n1 : Int) != 80) = false := by rw [e1]; rfl
        have d1' : ((n1 : Int) == 80) = true := by rw [e1]; rfl
        by_cases e2 : n2 = gen
        · have d2 : ((n2 : Int) != (gen : Int)) = false := by rw [e2]; simp
          have d2' : ((n2 : Int) == (gen : Int)) = true := by rw [e2]; simp
          by_cases e3 : n3 = i
          · have d3 : ((n3 : Int) != (i : Int)) = false := by rw [e3]; simp
            have d3' : ((n3 : Int) == (i : Int)) = true := by rw [e3]; simp
            rw [decide_eq_true e1, decide_eq_true e2, decide_eq_true e3, if_pos (show (true && true && true) = true from rfl), if_pos rfl]
            clear e1 e2 e3
            go_enter Try.func32, Try.ntmps32
            go_wp2_with (first
        | (go_at_call 47; (with_reducible refine (HOP.out _ (HR.out _ HB0.out)).mono ?_); rintro e w1 ⟨⟨r, rfl, hrr⟩, hb1⟩; have HB1 := Lib.hid (HB0.out.trans (hb1.mono HB0.out.size)); obtain ⟨A2, c2, rfl, hr2⟩ := hrr2.out _ _ hrr; have HR2 := Lib.hid hr2; clear hrr hr2 hb1)
        | (go_at_call 33; (with_reducible refine (HRD.out _ A2 c2 HR2.out).mono ?_); rintro e w2 ⟨G, h, rfl, hro⟩; have HRO0 := Lib.hid (hro w HB1.out.size HB1.out); clear hro)
        | (go_at_call 34; (with_reducible refine (HT1.out _ _ _ _ HRO0.out).mono ?_); rintro e w3 ⟨rfl, hk3⟩; have HRO1 := Lib.hid hk3; clear hk3)
        | (go_at_call 34; (with_reducible refine (HT2.out _ _ _ _ HRO1.out).mono ?_); rintro e w4 ⟨rfl, hk4⟩; have HRO2 := Lib.hid hk4; clear hk4)
        | (go_at_call 34; (with_reducible refine (HT3.out _ _ _ _ HRO2.out).mono ?_); rintro e w5 ⟨rfl, hk5⟩; have HRO3 := Lib.hid hk5; clear hk5)
        | (go_at_call 36; (with_reducible refine (HRS.out _ _ _ _ HRO3.out).mono ?_); rintro e w6 ⟨⟨A6, c6, rfl, hr6⟩, hb6⟩; have HR6 := Lib.hid hr6; have HB6 := Lib.hid hb6; clear hr6 hb6)
        | fail "no")
            go_ret2
            exact ⟨⟨A6, c6, rfl, HR6.out⟩, HB6.out⟩
          · have d3 : ((n3 : Int) != (i : Int)) = true := bne_iff_ne.2 (by omega)
            have d3' : ((n3 : Int) == (i : Int)) = false := beq_eq_false_iff_ne.2 (by omega)
            rw [show (decide (n1 = 80) && decide (n2 = gen) && decide (n3 = i)) = false by simp [e3], if_neg (by decide), if_neg (by decide)]
            go_enter Try.func32, Try.ntmps32
            go_wp2_with (first
        | (go_at_call 47; (with_reducible refine (HOP.out _ (HR.out _ HB0.out)).mono ?_); rintro e w1 ⟨⟨r, rfl, hrr⟩, hb1⟩; have HB1 := Lib.hid (HB0.out.trans (hb1.mono HB0.out.size)); obtain ⟨A2, c2, rfl, hr2⟩ := hrr2.out _ _ hrr; have HR2 := Lib.hid hr2; clear hrr hr2 hb1)
        | (go_at_call 33; (with_reducible refine (HRD.out _ A2 c2 HR2.out).mono ?_); rintro e w2 ⟨G, h, rfl, hro⟩; have HRO0 := Lib.hid (hro w HB1.out.size HB1.out); clear hro)
        | (go_at_call 34; (with_reducible refine (HT1.out _ _ _ _ HRO0.out).mono ?_); rintro e w3 ⟨rfl, hk3⟩; have HRO1 := Lib.hid hk3; clear hk3)
        | (go_at_call 34; (with_reducible refine (HT2.out _ _ _ _ HRO1.out).mono ?_); rintro e w4 ⟨rfl, hk4⟩; have HRO2 := Lib.hid hk4; clear hk4)
        | (go_at_call 34; (with_reducible refine (HT3.out _ _ _ _ HRO2.out).mono ?_); rintro e w5 ⟨rfl, hk5⟩; have HRO3 := Lib.hid hk5; clear hk5)
        | (go_at_call 36; (with_reducible refine (HRS.out _ _ _ _ HRO3.out).mono ?_); rintro e w6 ⟨⟨A6, c6, rfl, hr6⟩, hb6⟩; have HR6 := Lib.hid hr6; have HB6 := Lib.hid hb6; clear hr6 hb6)
        | fail "no")
            go_ret2
            exact ⟨⟨none, 0, rfl, Rd.nil _ _⟩, HRO3.out.bel⟩
        · have d2 : ((n2 : Int) != (gen : Int)) = true := bne_iff_ne.2 (by omega)
          have d2' : ((n2 : Int) == (gen : Int)) = false := beq_eq_false_iff_ne.2 (by omega)
          rw [show (decide (n1 = 80) && decide (n2 = gen) && decide (n3 = i)) = false by simp [e2], if_neg (by decide), if_neg (by decide)]
          go_enter Try.func32, Try.ntmps32
          go_wp2_with (first
        | (go_at_call 47; (with_reducible refine (HOP.out _ (HR.out _ HB0.out)).mono ?_); rintro e w1 ⟨⟨r, rfl, hrr⟩, hb1⟩; have HB1 := Lib.hid (HB0.out.trans (hb1.mono HB0.out.size)); obtain ⟨A2, c2, rfl, hr2⟩ := hrr2.out _ _ hrr; have HR2 := Lib.hid hr2; clear hrr hr2 hb1)
        | (go_at_call 33; (with_reducible refine (HRD.out _ A2 c2 HR2.out).mono ?_); rintro e w2 ⟨G, h, rfl, hro⟩; have HRO0 := Lib.hid (hro w HB1.out.size HB1.out); clear hro)
        | (go_at_call 34; (with_reducible refine (HT1.out _ _ _ _ HRO0.out).mono ?_); rintro e w3 ⟨rfl, hk3⟩; have HRO1 := Lib.hid hk3; clear hk3)
        | (go_at_call 34; (with_reducible refine (HT2.out _ _ _ _ HRO1.out).mono ?_); rintro e w4 ⟨rfl, hk4⟩; have HRO2 := Lib.hid hk4; clear hk4)
        | (go_at_call 34; (with_reducible refine (HT3.out _ _ _ _ HRO2.out).mono ?_); rintro e w5 ⟨rfl, hk5⟩; have HRO3 := Lib.hid hk5; clear hk5)
        | (go_at_call 36; (with_reducible refine (HRS.out _ _ _ _ HRO3.out).mono ?_); rintro e w6 ⟨⟨A6, c6, rfl, hr6⟩, hb6⟩; have HR6 := Lib.hid hr6; have HB6 := Lib.hid hb6; clear hr6 hb6)
        | fail "no")
          go_ret2
          exact ⟨⟨none, 0, rfl, Rd.nil _ _⟩, HRO2.out.bel⟩
      · have d1 : ((n1 : Int) != 80) = true := bne_iff_ne.2 (by omega)
        have d1' : ((n1 : Int) == 80) = false := beq_eq_false_iff_ne.2 (by omega)
        rw [show (decide (n1 = 80) && decide (n2 = gen) && decide (n3 = i)) = false by simp [e1], if_neg (by decide), if_neg (by decide)]
        go_enter Try.func32, Try.ntmps32
        go_wp2_with (first
        | (go_at_call 47; (with_reducible refine (HOP.out _ (HR.out _ HB0.out)).mono ?_); rintro e w1 ⟨⟨r, rfl, hrr⟩, hb1⟩; have HB1 := Lib.hid (HB0.out.trans (hb1.mono HB0.out.size)); obtain ⟨A2, c2, rfl, hr2⟩ := hrr2.out _ _ hrr; have HR2 := Lib.hid hr2; clear hrr hr2 hb1)
        | (go_at_call 33; (with_reducible refine (HRD.out _ A2 c2 HR2.out).mono ?_); rintro e w2 ⟨G, h, rfl, hro⟩; have HRO0 := Lib.hid (hro w HB1.out.size HB1.out); clear hro)
        | (go_at_call 34; (with_reducible refine (HT1.out _ _ _ _ HRO0.out).mono ?_); rintro e w3 ⟨rfl, hk3⟩; have HRO1 := Lib.hid hk3; clear hk3)
        | (go_at_call 34; (with_reducible refine (HT2.out _ _ _ _ HRO1.out).mono ?_); rintro e w4 ⟨rfl, hk4⟩; have HRO2 := Lib.hid hk4; clear hk4)
        | (go_at_call 34; (with_reducible refine (HT3.out _ _ _ _ HRO2.out).mono ?_); rintro e w5 ⟨rfl, hk5⟩; have HRO3 := Lib.hid hk5; clear hk5)
        | (go_at_call 36; (with_reducible refine (HRS.out _ _ _ _ HRO3.out).mono ?_); rintro e w6 ⟨⟨A6, c6, rfl, hr6⟩, hb6⟩; have HR6 := Lib.hid hr6; have HB6 := Lib.hid hb6; clear hr6 hb6)
        | fail "no")
        go_ret2
        exact ⟨⟨none, 0, rfl, Rd.nil _ _⟩, HRO1.out.bel⟩
    · rw [if_neg hs] at HOP ⊢
      rw [if_neg (by decide)]
      go_enter Try.func32, Try.ntmps32
      go_wp2_with (first
        | (go_at_call 47; (with_reducible refine (HOP.out _ (HR.out _ HB0.out)).mono ?_); rintro e w1 ⟨⟨r, rfl, hrr⟩, hb1⟩; rw [if_neg hs] at hrr; subst hrr; have HB1 := Lib.hid (HB0.out.trans (hb1.mono HB0.out.size)); clear hb1)
        | fail "no")
      go_ret2
      exact ⟨⟨none, 0, rfl, Rd.nil _ _⟩, HB1.out⟩
  · have hcode : oneC gen g i b = 6 := by unfold oneC; rw [if_neg hl]
    rw [hcode, if_neg (by decide)]
    have hd1 : ((b.length : Int) != (g : Int) + 15) = true := bne_iff_ne.2 (by omega)
    have hd2 : ((b.length : Int) == (g : Int) + 15) = false := beq_eq_false_iff_ne.2 (by omega)
    clear hr ho hc hl hcode
    go_enter Try.func32, Try.ntmps32
    go_wp2
    go_ret2
    exact ⟨⟨none, 0, rfl, Rd.nil _ _⟩, HB0.out⟩
end Go.Proofs.Ytcpngnnnggpfpaa
namespace Go.Proofs.Ytcpngnnnggpfpaa
open Go.RowKit

/-! ### plain: what is read of pages -/
def rep1 (n : Nat) (f : Nat → Nat) : List Nat := (List.range n).map f
def segAt (all : List Int) (i : Nat) : Nat × Nat := (nf all (12 + 9 * i) 1, nf all (13 + 9 * i) 8)
def segsAt (all : List Int) (n : Nat) : List (Nat × Nat) := (List.range n).map (segAt all)
def mapAt (all : List Int) (s j : Nat) : Nat := nf all (12 + 9 * s + 4 * j) 4
def mapsAt (all : List Int) (s n : Nat) : List Nat := (List.range n).map (mapAt all s)
theorem segsAt_snoc (all : List Int) (n : Nat) : segsAt all (n + 1) = segsAt all n ++ [segAt all n] := by simp [segsAt, List.range_succ]
theorem mapsAt_snoc (all : List Int) (s n : Nat) : mapsAt all s (n + 1) = mapsAt all s n ++ [mapAt all s n] := by simp [mapsAt, List.range_succ]
theorem segsAt_len (all : List Int) (n : Nat) : (segsAt all n).length = n := by simp [segsAt]
theorem mapsAt_len (all : List Int) (s n : Nat) : (mapsAt all s n).length = n := by simp [mapsAt]
def picAt (all : List Int) (s l : Nat) : Pic := ⟨nf all 0 8, nf all 8 2, nf all 10 2, segsAt all s, mapsAt all s l⟩
def zer (xs : List Int) : Bool := xs.all fun c => c == 0
/-- May such an image be, of a shape of so many segments, stripes, places? -/
def picB (s t q : Nat) (all : List Int) (l : Nat) : Bool :=
  decide (((picAt all s l).sg : Int) - 1 < s) && decide ((picAt all s l).ix < t) && (picAt all s l).cs.all (fun c => decide (c.1 ≤ 2)) && (picAt all s l).mp.all (fun p => decide ((p : Int) - 1 < q)) && zer (all.drop (12 + 9 * s + 4 * l))
/-- The first page that is none. -/
def firstC (gen g : Nat) : Nat → List (List Int) → Int
  | _, [] => 0
  | i, b :: r => if oneC gen g i b = 0 then firstC gen g (i + 1) r else oneC gen g i b
def restsL (g : Nat) (l : List (List Int)) : List Int := l.flatMap (restL g)
def zeroPic : Pic := ⟨0, 1, 0, [], []⟩
def decC (gen g P s t q l : Nat) (pg : List (List Int)) : Int :=
  if pg.length = P then (if firstC gen g 0 pg = 0 then (if picB s t q (restsL g pg) l = true then 0 else 4) else firstC gen g 0 pg) else 6
def decP (gen g P s t q l : Nat) (pg : List (List Int)) : Pic := if decC gen g P s t q l pg = 0 then picAt (restsL g pg) s l else zeroPic

/-! ### the blocks -/
theorem Re.fr_ {w w' : World} {g h : Nat} {xs : List Int} {bad : Bool} {S : Nat → Prop} (k : Re w g h xs bad) (f : Fr S w w') (hg : ¬ S g) (hh : ¬ S h) : Re w' g h xs bad := by
  obtain ⟨o, c, k1, k2, k3, k4⟩ := k.form
  exact ⟨o, c, k1.fr f hg, k2.fr f (fun ad e => by injection e with e; subst e; exact hh), k3, k4⟩
theorem Re.blk {w : World} {g h : Nat} {zs : List Int} {bad : Bool} (k : Re w g h zs bad) : ∃ cs, Blk w g 86 cs := by
  obtain ⟨o, c, k1, -, -, -⟩ := k.form
  exact ⟨_, k1⟩
theorem Re.lt {w : World} {g h : Nat} {zs : List Int} {bad : Bool} (k : Re w g h zs bad) (hz : 0 < zs.length) : h < w.heap.size := by
  obtain ⟨o, c, -, k2, -, -⟩ := k.form
  obtain ⟨ad, e, hc⟩ := k2 0 (.int .u8 zs[0]) (by simp [byv])
  injection e with e
  subst e
  have := World.block_lt_of_cell? w _ hc
  rw [block_of_add] at this
  exact this
/-- Behind a call: an image, and an error's number. -/
def ImRes (b : Nat) (w' : World) (e : Ending) (y : Pic) (code : Int) : Prop :=
  ∃ A c B d, e = .returned (.tuple #[.agg #[.int .u64 y.sq, .int .i64 ((y.sg : Int) - 1), .int .i64 y.ix, .slice A y.cs.length c, .slice B y.mp.length d], .int .i64 code]) ∧ Rd w' A (sgs y.cs) ∧ Rd w' B (mps y.mp) ∧ (∀ ad, A = some ad → b ≤ ad.block) ∧ (∀ ad, B = some ad → b ≤ ad.block)
theorem imRes_zero (b : Nat) (w : World) (code : Int) : ImRes b w (.returned (.tuple #[.agg #[.int .u64 0, .int .i64 0, .int .i64 0, .slice none 0 0, .slice none 0 0], .int .i64 code])) zeroPic code :=
  ⟨none, 0, none, 0, rfl, Rd.nil _ _, Rd.nil _ _, fun _ (e : (none : Option Addr) = some _) => (by cases e), fun _ (e : (none : Option Addr) = some _) => (by cases e)⟩
theorem set5 (a b c d e x y z u v : Value) : (((((#[a, b, c, d, e] : Array Value).setIfInBounds 0 x).setIfInBounds 1 y).setIfInBounds 2 z).setIfInBounds 3 u).setIfInBounds 4 v = #[x, y, z, u, v] := rfl
theorem im_set {w : World} {R : Nat} {a b c d e : Value} (k : Blk w R 28 #[a, b, c, d, e]) (x y z u v : Value) :
    Blk (((((w.setCell ⟨R, 0, none⟩ x).setCell ⟨R, 1, none⟩ y).setCell ⟨R, 2, none⟩ z).setCell ⟨R, 3, none⟩ u).setCell ⟨R, 4, none⟩ v) R 28 #[x, y, z, u, v] ∧
    Fr (fun b => b = R) w (((((w.setCell ⟨R, 0, none⟩ x).setCell ⟨R, 1, none⟩ y).setCell ⟨R, 2, none⟩ z).setCell ⟨R, 3, none⟩ u).setCell ⟨R, 4, none⟩ v) := by
  refine ⟨?_, Fr.setCell (Fr.setCell (Fr.setCell (Fr.setCell (Fr.setCell (Fr.refl (fun b => b = R) w) (p := ⟨R, 0, none⟩) (.inl rfl) _) (p := ⟨R, 1, none⟩) (.inl rfl) _) (p := ⟨R, 2, none⟩) (.inl rfl) _) (p := ⟨R, 3, none⟩) (.inl rfl) _) (p := ⟨R, 4, none⟩) (.inl rfl) _⟩
  have := ((((k.set_ 0 x).set_ 1 y).set_ 2 z).set_ 3 u).set_ 4 v
  rw [set5] at this
  exact this
theorem im_end {Q : Ending → World → Prop} (t : Array Value) (W : World) {R : Nat} {a b c d e : Value} (hb : Blk W R 28 #[a, b, c, d, e]) {code : Int} (h4 : t.getD 6 undef = .pointer (some ⟨R, 0, none⟩)) (h5 : t.getD 7 undef = .int .i64 code)
    (hQ : Q (.returned (.tuple #[.agg #[a, b, c, d, e], .int .i64 code])) W) : bodyPost Try.prog Try.f10 Q Exit.ret ⟨t, []⟩ W :=
  bodyPost_ret (results_cell2_row (fn := Try.f10) (p := 6) (u := 7) (ty := 28) (by kernel_rfl) _ h4 hb Try.underlying28 rfl (by kernel_rfl)) rfl (by rw [h5]; exact hQ)
/-- The shape's block, the result's, the reader. -/
structure Dp (w0 w : World) (S R g h : Nat) (x : Sh) (zs : List Int) : Prop where
  sh : Blk w S 23 #[.int .i64 x.m, .int .i64 x.b, .int .i64 x.s, .int .i64 x.t, .int .i64 x.n, .int .i64 x.l]
  res : Blk w R 28 #[.int .u64 0, .int .i64 0, .int .i64 0, .slice none 0 0, .slice none 0 0]
  re : Re w g h zs false
  bel : Below w0.heap.size w0 w
  far : w0.heap.size ≤ R ∧ w0.heap.size ≤ g ∧ h < w.heap.size
/-- And the image that is made, with its rows. -/
structure Dq (w0 w : World) (B S R X g h : Nat) (x : Sh) (sq sg ix : Int) (v3 : Value) (cs : List (Nat × Nat)) (v4 : Value) (ms : List Nat) (zs : List Int) : Prop where
  dp : Dp w0 w S R g h x zs
  im : Blk w X 28 #[.int .u64 sq, .int .i64 sg, .int .i64 ix, v3, v4]
  r3 : w.ownsRow B 72 2 v3 cs.length (sgs cs)
  r4 : w.ownsRow B 3 1 v4 ms.length (mps ms)
  far : S < X ∧ R < X ∧ g < X ∧ h < X ∧ X < B
section
variable {w0 w w' W : World} {B S R X g h : Nat} {x : Sh} {sq sg ix : Int} {v3 v3' v4 v4' : Value} {cs : List (Nat × Nat)} {ms : List Nat} {zs zs' ys : List Int}
theorem Dp.later (k : Dp w0 w S R g h x zs) (hb : Below w.heap.size w w') : Dp w0 w' S R g h x zs := ⟨k.sh.later hb, k.res.later hb, k.re.later hb, k.bel.trans (hb.mono k.bel.size), k.far.1, k.far.2.1, Nat.lt_of_lt_of_le k.far.2.2 hb.size⟩
theorem Dp.took (k : Dp w0 w S R g h x zs) (hr : Re w' g h zs' false) (hf : Fr (· = g) w w') : Dp w0 w' S R g h x zs' := by
  obtain ⟨c, hb⟩ := k.re.blk
  exact ⟨k.sh.fr hf (Blk.ne_ k.sh hb (by decide)), k.res.fr hf (Blk.ne_ k.res hb (by decide)), hr, k.bel.trans (hf.toBelow k.bel.size fun b hb e => by have := k.far.2.1; omega), k.far.1, k.far.2.1, Nat.lt_of_lt_of_le k.far.2.2 hf.size⟩
theorem takeP {i : Nat} (k : Dp w0 w S R g h x (ys.drop i)) (n : Nat) (z : Int) (hz : z = n) (hn : i + n ≤ ys.length) (hy : ys.length ≤ 1000000) (ho : Oct ys) :
    Calls Try.prog 34 #[.pointer (some ⟨g, 0, none⟩), .int .i64 z] w fun e w' => e = .returned (.int .u64 (nf ys i n)) ∧ Dp w0 w' S R g h x (ys.drop (i + n)) := by
  subst hz
  refine (take_ok g h (ys.drop i) n w k.re (by rw [List.length_drop]; omega) (by rw [List.length_drop]; omega) (ho.drop i)).mono ?_
  rintro e w' ⟨rfl, h1, h2⟩
  rw [nf_cast ho i n]
  rw [List.drop_drop] at h1
  exact ⟨rfl, k.took h1 h2⟩
theorem Dq.later (k : Dq w0 w B S R X g h x sq sg ix v3 cs v4 ms zs) (hb : Below w.heap.size w w') : Dq w0 w' B S R X g h x sq sg ix v3 cs v4 ms zs := ⟨k.dp.later hb, k.im.later hb, ownsRow_later k.r3 hb, ownsRow_later k.r4 hb, k.far⟩
theorem takeQ {i : Nat} (k : Dq w0 w B S R X g h x sq sg ix v3 cs v4 ms (ys.drop i)) (n : Nat) (z : Int) (hz : z = n) (hn : i + n ≤ ys.length) (hy : ys.length ≤ 1000000) (ho : Oct ys) :
    Calls Try.prog 34 #[.pointer (some ⟨g, 0, none⟩), .int .i64 z] w fun e w' => e = .returned (.int .u64 (nf ys i n)) ∧ Dq w0 w' B S R X g h x sq sg ix v3 cs v4 ms (ys.drop (i + n)) := by
  subst hz
  refine (take_ok g h (ys.drop i) n w k.dp.re (by rw [List.length_drop]; omega) (by rw [List.length_drop]; omega) (ho.drop i)).mono ?_
  rintro e w' ⟨rfl, h1, h2⟩
  rw [nf_cast ho i n]
  rw [List.drop_drop] at h1
  obtain ⟨c, hb⟩ := k.dp.re.blk
  exact ⟨rfl, k.dp.took h1 h2, k.im.fr h2 (Blk.ne_ k.im hb (by decide)), ownsRow_fr k.r3 h2 (fun b hv e => own_blk_ne k.r3 hb (by decide) (by rw [hv, e])), ownsRow_fr k.r4 h2 (fun b hv e => own_blk_ne k.r4 hb (by decide) (by rw [hv, e])), k.far⟩
/-- What a write to a row behind B and to X leaves. -/
theorem Dq.frame (k : Dq w0 w B S R X g h x sq sg ix v3 cs v4 ms zs) (hf : Fr (fun b => B ≤ b ∨ b = X) w w') : Dp w0 w' S R g h x zs := by
  obtain ⟨f1, f2, f3, f4, f5⟩ := k.far
  have hn : ∀ b, b < X → ¬ (B ≤ b ∨ b = X) := fun b hb h => by omega
  refine ⟨k.dp.sh.fr hf (hn _ f1), k.dp.res.fr hf (hn _ f2), k.dp.re.fr_ hf (hn _ f3) (hn _ f4), k.dp.bel.trans (hf.toBelow k.dp.bel.size fun b hb h => ?_), k.dp.far.1, k.dp.far.2.1, Nat.lt_of_lt_of_le k.dp.far.2.2 hf.size⟩
  have := k.dp.far.1
  omega
theorem Dq.open3 (k : Dq w0 w B S R X g h x sq sg ix v3 cs v4 ms zs) (hb : Below w.heap.size w W) (hg : W.grownBy w' v3.ownBlock) : w'.cell? ⟨X, 3, none⟩ = some v3 ∧ w'.frozen? ⟨X, 3, none⟩ = false := by
  have k' := k.later hb
  have b2 := k'.im.grown hg (fun e => own_blk_ne k'.r3 k'.im (by decide) e.symm)
  exact ⟨b2.at_ rfl, b2.frozen 3⟩
theorem Dq.open4 (k : Dq w0 w B S R X g h x sq sg ix v3 cs v4 ms zs) (hb : Below w.heap.size w W) (hg : W.grownBy w' v4.ownBlock) : w'.cell? ⟨X, 4, none⟩ = some v4 ∧ w'.frozen? ⟨X, 4, none⟩ = false := by
  have k' := k.later hb
  have b2 := k'.im.grown hg (fun e => own_blk_ne k'.r4 k'.im (by decide) e.symm)
  exact ⟨b2.at_ rfl, b2.frozen 4⟩
theorem Dq.push3 (k : Dq w0 w B S R X g h x sq sg ix v3 cs v4 ms zs) (hb : Below w.heap.size w W) (hg : W.grownBy w' v3.ownBlock) (e : Nat × Nat) (ho : w'.ownsRow B 72 2 v3' (cs.length + 1) (sgs cs ++ sgv e)) :
    Dq w0 (w'.setCell ⟨X, 3, none⟩ v3') B S R X g h x sq sg ix v3' (cs ++ [e]) v4 ms zs := by
  have k' := k.later hb
  have hv : ∀ b, v3.ownBlock = some b → B ≤ b := fun b hb => (k'.r3.lt b hb).1
  have b2 := k'.im.grown hg (fun e => own_blk_ne k'.r3 k'.im (by decide) e.symm)
  have f2 : Fr (· = X) w' (w'.setCell ⟨X, 3, none⟩ v3') := (Fr.refl (· = X) w').setCell (p := ⟨X, 3, none⟩) (.inl rfl) v3'
  have fg : Fr (fun b => v3.ownBlock = some b) W w' := Fr.of_grown hg
  have fa : Fr (fun b => v3.ownBlock = some b ∨ b = X) W (w'.setCell ⟨X, 3, none⟩ v3') := (fg.mono fun b _ e => .inl e).trans (f2.mono fun b _ e => .inr e) fun _ _ h => h
  rw [← sgs_snoc] at ho
  have b3 := b2.set_ 3 v3'
  refine ⟨k'.frame (fa.mono fun b _ h => by rcases h with h | h; exact .inl (hv b h); exact .inr h), b3, ?_, ?_, k.far⟩
  · rw [List.length_append]
    exact ownsRow_fr ho f2 fun b hb e => own_blk_ne ho b2 (by decide) (by rw [hb, e])
  · refine ownsRow_fr k'.r4 fa fun b hb h => ?_
    rcases h with h | h
    · exact own_own_ne k'.r4 k'.r3 (by decide) b hb h
    · subst h; exact own_blk_ne k'.r4 k'.im (by decide) hb
theorem Dq.push4 (k : Dq w0 w B S R X g h x sq sg ix v3 cs v4 ms zs) (hb : Below w.heap.size w W) (hg : W.grownBy w' v4.ownBlock) (p : Nat) (ho : w'.ownsRow B 3 1 v4' (ms.length + 1) (mps ms ++ [.int .i64 ((p : Int) - 1)])) :
    Dq w0 (w'.setCell ⟨X, 4, none⟩ v4') B S R X g h x sq sg ix v3 cs v4' (ms ++ [p]) zs := by
  have k' := k.later hb
  have hv : ∀ b, v4.ownBlock = some b → B ≤ b := fun b hb => (k'.r4.lt b hb).1
  have b2 := k'.im.grown hg (fun e => own_blk_ne k'.r4 k'.im (by decide) e.symm)
  have f2 : Fr (· = X) w' (w'.setCell ⟨X, 4, none⟩ v4') := (Fr.refl (· = X) w').setCell (p := ⟨X, 4, none⟩) (.inl rfl) v4'
  have fg : Fr (fun b => v4.ownBlock = some b) W w' := Fr.of_grown hg
  have fa : Fr (fun b => v4.ownBlock = some b ∨ b = X) W (w'.setCell ⟨X, 4, none⟩ v4') := (fg.mono fun b _ e => .inl e).trans (f2.mono fun b _ e => .inr e) fun _ _ h => h
  rw [← mps_snoc] at ho
  have b3 := b2.set_ 4 v4'
  refine ⟨k'.frame (fa.mono fun b _ h => by rcases h with h | h; exact .inl (hv b h); exact .inr h), b3, ?_, ?_, k.far⟩
  · refine ownsRow_fr k'.r3 fa fun b hb h => ?_
    rcases h with h | h
    · exact own_own_ne k'.r3 k'.r4 (by decide) b hb h
    · subst h; exact own_blk_ne k'.r3 k'.im (by decide) hb
  · rw [List.length_append]
    exact ownsRow_fr ho f2 fun b hb e => own_blk_ne ho b2 (by decide) (by rw [hb, e])
theorem Dq.done (k : Dq w0 w B S R X g h x sq sg ix v3 cs v4 ms zs) :
    Blk (((((w.setCell ⟨R, 0, none⟩ (.int .u64 sq)).setCell ⟨R, 1, none⟩ (.int .i64 sg)).setCell ⟨R, 2, none⟩ (.int .i64 ix)).setCell ⟨R, 3, none⟩ v3).setCell ⟨R, 4, none⟩ v4) R 28 #[.int .u64 sq, .int .i64 sg, .int .i64 ix, v3, v4] ∧
    (((((w.setCell ⟨R, 0, none⟩ (.int .u64 sq)).setCell ⟨R, 1, none⟩ (.int .i64 sg)).setCell ⟨R, 2, none⟩ (.int .i64 ix)).setCell ⟨R, 3, none⟩ v3).setCell ⟨R, 4, none⟩ v4).ownsRow B 72 2 v3 cs.length (sgs cs) ∧
    (((((w.setCell ⟨R, 0, none⟩ (.int .u64 sq)).setCell ⟨R, 1, none⟩ (.int .i64 sg)).setCell ⟨R, 2, none⟩ (.int .i64 ix)).setCell ⟨R, 3, none⟩ v3).setCell ⟨R, 4, none⟩ v4).ownsRow B 3 1 v4 ms.length (mps ms) ∧
    Below w0.heap.size w0 (((((w.setCell ⟨R, 0, none⟩ (.int .u64 sq)).setCell ⟨R, 1, none⟩ (.int .i64 sg)).setCell ⟨R, 2, none⟩ (.int .i64 ix)).setCell ⟨R, 3, none⟩ v3).setCell ⟨R, 4, none⟩ v4) := by
  obtain ⟨h1, h2⟩ := im_set k.dp.res (.int .u64 sq) (.int .i64 sg) (.int .i64 ix) v3 v4
  exact ⟨h1, ownsRow_fr k.r3 h2 (fun b hb e => own_blk_ne k.r3 k.dp.res (by decide) (by rw [hb, e])), ownsRow_fr k.r4 h2 (fun b hb e => own_blk_ne k.r4 k.dp.res (by decide) (by rw [hb, e])), k.dp.bel.trans (h2.toBelow k.dp.bel.size fun b hb e => by have := k.dp.far.1; omega)⟩
end
end Go.Proofs.Ytcpngnnnggpfpaa
namespace Go.Proofs.Ytcpngnnnggpfpaa
open Go.RowKit
attribute [local go_sem ↓] Go.wp_at_zero Go.wp_at_succ

/-- The two first blocks. -/
structure D0 (w0 w : World) (x : Sh) : Prop where
  sh : Blk w w0.heap.size 23 #[.int .i64 x.m, .int .i64 x.b, .int .i64 x.s, .int .i64 x.t, .int .i64 x.n, .int .i64 x.l]
  res : Blk w (w0.heap.size + 1) 28 #[.int .u64 0, .int .i64 0, .int .i64 0, .slice none 0 0, .slice none 0 0]
  bel : Below w0.heap.size w0 w
theorem D0.later {w0 w w' : World} {x : Sh} (k : D0 w0 w x) (hb : Below w.heap.size w w') : D0 w0 w' x := ⟨k.sh.later hb, k.res.later hb, k.bel.trans (hb.mono k.bel.size)⟩
theorem D0.start (w : World) (x : Sh) : D0 w ((w.alloc (.cells #[.int .i64 x.m, .int .i64 x.b, .int .i64 x.s, .int .i64 x.t, .int .i64 x.n, .int .i64 x.l] 23)).alloc (.cells #[.int .u64 0, .int .i64 0, .int .i64 0, .slice none 0 0, .slice none 0 0] 28)) x :=
  ⟨(Blk.new w 23 _).alloc _, Blk.new_ _ _ _ (by simp), ((Below.refl _ _).alloc (Nat.le_refl _) _).alloc (by simp) _⟩
theorem D0.zero {w0 w : World} {x : Sh} (k : D0 w0 w x) :
    Blk (((((w.setCell ⟨w0.heap.size + 1, 0, none⟩ (.int .u64 0)).setCell ⟨w0.heap.size + 1, 1, none⟩ (.int .i64 0)).setCell ⟨w0.heap.size + 1, 2, none⟩ (.int .i64 0)).setCell ⟨w0.heap.size + 1, 3, none⟩ (.slice none 0 0)).setCell ⟨w0.heap.size + 1, 4, none⟩ (.slice none 0 0)) (w0.heap.size + 1) 28 #[.int .u64 0, .int .i64 0, .int .i64 0, .slice none 0 0, .slice none 0 0] ∧
    Below w0.heap.size w0 (((((w.setCell ⟨w0.heap.size + 1, 0, none⟩ (.int .u64 0)).setCell ⟨w0.heap.size + 1, 1, none⟩ (.int .i64 0)).setCell ⟨w0.heap.size + 1, 2, none⟩ (.int .i64 0)).setCell ⟨w0.heap.size + 1, 3, none⟩ (.slice none 0 0)).setCell ⟨w0.heap.size + 1, 4, none⟩ (.slice none 0 0)) := by
  obtain ⟨h1, h2⟩ := im_set k.res (.int .u64 0) (.int .i64 0) (.int .i64 0) (.slice none 0 0) (.slice none 0 0)
  exact ⟨h1, k.bel.trans (h2.toBelow k.bel.size fun b hb e => by omega)⟩
set_option maxRecDepth 100000 in
set_option maxHeartbeats 6400000 in
theorem dec_arg (x : Sh) (gen : Int) (A : Option Addr) (n c : Nat) (w : World) (h : chk x ≠ 0) :
    Calls Try.prog 10 #[.agg #[.int .i64 x.m, .int .i64 x.b, .int .i64 x.s, .int .i64 x.t, .int .i64 x.n, .int .i64 x.l], .int .u64 gen, .slice A n c] w fun e w' => ImRes w.heap.size w' e zeroPic 1 ∧ Below w.heap.size w w' := by
  have h1 : chk x = 1 := by unfold chk at h ⊢; split <;> simp_all
  have HCK := Lib.hid (fun W => h1 ▸ check_ok x W)
  have HD := Lib.hid (D0.start w x)
  obtain ⟨s0, s1, s2, s3, s4, s5⟩ := HD.out.sh.cells6
  clear h h1
  go_enter Try.func10, Try.ntmps10
  go_wp2_with (first
    | (go_at_call 8; (with_reducible refine (HCK.out _).mono ?_); rintro e w1 ⟨rfl, hb1⟩; have HD1 := Lib.hid (HD.out.later hb1); clear hb1; obtain ⟨r0, r1, r2, r3, r4⟩ := HD1.out.res.cells5; have f0 := HD1.out.res.frozen 0; have f1 := HD1.out.res.frozen 1; have f2 := HD1.out.res.frozen 2; have f3 := HD1.out.res.frozen 3; have f4 := HD1.out.res.frozen 4)
    | fail "no")
  exact im_end _ _ HD1.out.zero.1 rfl rfl ⟨imRes_zero _ _ 1, HD1.out.zero.2⟩
set_option maxRecDepth 100000 in
set_option maxHeartbeats 6400000 in
theorem dec_size (x : Sh) (gen : Int) (A : Option Addr) (n c T P g : Nat) (w : World) (h : mayB x = true) (hg : Gd x T P g) (hn : n ≠ P) :
    Calls Try.prog 10 #[.agg #[.int .i64 x.m, .int .i64 x.b, .int .i64 x.s, .int .i64 x.t, .int .i64 x.n, .int .i64 x.l], .int .u64 gen, .slice A n c] w fun e w' => ImRes w.heap.size w' e zeroPic 6 ∧ Below w.heap.size w w' := by
  have h1 : chk x = 0 := by unfold chk; rw [if_pos h]
  have HCK := Lib.hid (fun W => h1 ▸ check_ok x W)
  have HG := Lib.hid hg
  have HD := Lib.hid (D0.start w x)
  obtain ⟨s0, s1, s2, s3, s4, s5⟩ := HD.out.sh.cells6
  have hd1 : ((n : Int) != (P : Int)) = true := bne_iff_ne.2 (by omega)
  have hd2 : ((n : Int) == (P : Int)) = false := beq_eq_false_iff_ne.2 (by omega)
  clear h h1 hg
  go_enter Try.func10, Try.ntmps10
  go_wp2_with (first
    | (go_at_call 8; (with_reducible refine (HCK.out _).mono ?_); rintro e w1 ⟨rfl, hb1⟩; have HD1 := Lib.hid (HD.out.later hb1); clear hb1; obtain ⟨t0, t1, t2, t3, t4, t5⟩ := HD1.out.sh.cells6)
    | (go_at_call 26; (with_reducible refine (HG.out.pages _).mono ?_); rintro e w2 ⟨rfl, hb2⟩; have HD2 := Lib.hid (HD1.out.later hb2); clear hb2; obtain ⟨r0, r1, r2, r3, r4⟩ := HD2.out.res.cells5; have f0 := HD2.out.res.frozen 0; have f1 := HD2.out.res.frozen 1; have f2 := HD2.out.res.frozen 2; have f3 := HD2.out.res.frozen 3; have f4 := HD2.out.res.frozen 4)
    | fail "no")
  exact im_end _ _ HD2.out.zero.1 rfl rfl ⟨imRes_zero _ _ 6, HD2.out.zero.2⟩
end Go.Proofs.Ytcpngnnnggpfpaa
namespace Go.Proofs.Ytcpngnnnggpfpaa
open Go.RowKit
attribute [local go_sem ↓] Go.wp_at_zero Go.wp_at_succ

/-- One world: a word that no tactic strikes. -/
def EqW (a b : World) : Prop := a = b
theorem zer_snoc (l : List Int) (x : Int) : zer (l ++ [x]) = (zer l && (x == 0)) := by simp [zer]
theorem restsL_snoc (g : Nat) (l : List (List Int)) (b : List Int) : restsL g (l ++ [b]) = restsL g l ++ restL g b := by simp [restsL]
theorem oneC_len {gen g i : Nat} {b : List Int} (h : oneC gen g i b = 0) : b.length = g + 15 := by
  unfold oneC at h
  by_cases hl : b.length = g + 15
  · exact hl
  · rw [if_neg hl] at h
    exact absurd h (by decide)
theorem restL_oct {g : Nat} {b : List Int} (h : Oct b) : Oct (restL g b) := (h.take _).drop _
theorem firstC_step {gen g i : Nat} {pg : List (List Int)} {b : List Int} (h : pg[i]? = some b) : firstC gen g i (pg.drop i) = if oneC gen g i b = 0 then firstC gen g (i + 1) (pg.drop (i + 1)) else oneC gen g i b := by
  have hi := (List.getElem?_eq_some_iff.1 h).1
  rw [List.drop_eq_getElem_cons hi, (List.getElem?_eq_some_iff.1 h).2]
  rfl
theorem oneC_cases (gen g i : Nat) (b : List Int) : oneC gen g i b = 0 ∨ oneC gen g i b = 4 ∨ oneC gen g i b = 5 ∨ oneC gen g i b = 6 := by
  unfold oneC
  split
  · split
    · split <;> simp
    · simp
  · simp
set_option maxRecDepth 100000 in
set_option maxHeartbeats 25600000 in
theorem dec_ok (x : Sh) (gen : Nat) (A : Option Addr) (c : Nat) (pl : List Sc) (T P g s t q l : Nat) (w : World) (hx : mayB x = true) (hg : Gd x T P g) (_hgen : gen < 18446744073709551616) (hP : P ≤ 1000)
    (hs : x.s = s) (ht : x.t = t) (hl : x.l = l) (al1 sl1 : Nat) (ha : x.s * x.t = al1) (hb : x.m - 2 = sl1) (hq : al1 * sl1 = q) (hq1 : al1 ≤ 1000000 ∧ sl1 ≤ 1000 ∧ q ≤ 1000000)
    (hr : Rd w A (scs pl)) (hh : Hsc w pl) (ho : ∀ s ∈ pl, Oct s.raw) (hpl : pl.length = P) (hc : P ≤ c) :
    Calls Try.prog 10 #[.agg #[.int .i64 x.m, .int .i64 x.b, .int .i64 x.s, .int .i64 x.t, .int .i64 x.n, .int .i64 x.l], .int .u64 gen, .slice A P c] w fun e w' => ImRes w.heap.size w' e (decP gen g P s t q l (rws pl)) (decC gen g P s t q l (rws pl)) ∧ Below w.heap.size w w' := by
  have h1 : chk x = 0 := by unfold chk; rw [if_pos hx]
  have HCK := Lib.hid (fun W => h1 ▸ check_ok x W)
  have HG := Lib.hid hg
  have HD := Lib.hid (D0.start w x)
  obtain ⟨s0, s1, s2, s3, s4, s5⟩ := HD.out.sh.cells6
  have HR := Lib.hid hr
  have HH := Lib.hid hh
  have HO := Lib.hid ho
  have HPL := Lib.hid hpl
  have hg1 := hg.g1
  have hxb : x.b = (g : Int) + 15 := by have := hg.b; omega
  have hdC : decC gen g P s t q l (rws pl) = if firstC gen g 0 (rws pl) = 0 then (if picB s t q (restsL g (rws pl)) l = true then 0 else 4) else firstC gen g 0 (rws pl) := by unfold decC; rw [if_pos (by rw [rws_len]; exact hpl)]
  have hdP : decP gen g P s t q l (rws pl) = if decC gen g P s t q l (rws pl) = 0 then picAt (restsL g (rws pl)) s l else zeroPic := rfl
  have HDC := Lib.hid hdC
  have HDP := Lib.hid hdP
  have HXB := Lib.hid hxb
  have hone := fun (i : Nat) (b : List Int) (A : Option Addr) (c : Nat) (W : World) (h : Rd W A (byv b)) (h2 : Oct b) (h3 : b.length ≤ c) (h4 : i < 65536) => one_ok x gen g i b A c W hxb hg1 h4 h h2 h3
  have HONE := Lib.hid hone
  obtain ⟨j0, hj0, y0, y1, y2⟩ := info_parts (show (Try.prog.info? 72).map (fun i => (i.zero, i.size, i.bytes)) = some (some (.agg #[.int .i64 0, .int .u64 0]), 2, 16) by kernel_rfl)
  obtain ⟨l0, hl0, x0, x1, x2⟩ := info_parts (show (Try.prog.info? 3).map (fun i => (i.zero, i.size, i.bytes)) = some (some (.int .i64 0), 1, 8) by kernel_rfl)
  obtain ⟨i0, hi0, hz0, hz1, hz2⟩ := info_parts (show (Try.prog.info? 5).map (fun i => (i.zero, i.size, i.bytes)) = some (some (.int .u8 0), 1, 1) by kernel_rfl)
  generalize decC gen g P s t q l (rws pl) = DC at HDC HDP ⊢
  generalize decP gen g P s t q l (rws pl) = DP at HDP ⊢
  have HS := Lib.hid hs
  have HT := Lib.hid ht
  have HL := Lib.hid hl
  have hall : ∀ W, Calls Try.prog 35 #[.agg #[.int .i64 x.m, .int .i64 x.b, .int .i64 x.s, .int .i64 x.t, .int .i64 x.n, .int .i64 x.l]] W fun e w' => e = .returned (.int .i64 (al1 : Int)) ∧ Below W.heap.size W w' := fun W =>
    Q.geom_Shape_All.calls _ _ _ _ _ _ _ W (by unfold Q.geom_Shape_All.f; rw [ha, wr64 (by omega) (by omega)])
  have hslo : ∀ W, Calls Try.prog 23 #[.agg #[.int .i64 x.m, .int .i64 x.b, .int .i64 x.s, .int .i64 x.t, .int .i64 x.n, .int .i64 x.l]] W fun e w' => e = .returned (.int .i64 (sl1 : Int)) ∧ Below W.heap.size W w' := fun W =>
    Q.geom_Shape_Slots.calls _ _ _ _ _ _ _ W (by unfold Q.geom_Shape_Slots.f; rw [hb, wr64 (by omega) (by omega)])
  have HALL := Lib.hid hall
  have HSLO := Lib.hid hslo
  have mq : IntKind.i64.wrap ((al1 : Int) * (sl1 : Int)) = (q : Int) := by rw [show (al1 : Int) * (sl1 : Int) = (q : Int) by rw [← hq]; rfl]; exact IntWalk.i64_in _ (by omega)
  clear h1 hg hr hh ho hpl hxb hdC hdP hone hx hs ht hl hq ha hb hall hslo
  go_enter Try.func10, Try.ntmps10
  go_wp2_with (first
    | (go_at_call 8; (with_reducible refine (HCK.out _).mono ?_); rintro e w1 ⟨rfl, hb1⟩; have HD1 := Lib.hid (HD.out.later hb1); clear hb1; obtain ⟨t0, t1, t2, t3, t4, t5⟩ := HD1.out.sh.cells6)
    | (go_at_call 26; (with_reducible refine (HG.out.pages _).mono ?_); rintro e w2 ⟨rfl, hb2⟩; have HD2 := Lib.hid (HD1.out.later hb2); clear hb2)
    | fail "no")
  clear s0 s1 s2 s3 s4 s5 t0 t1 t2 t3 t4 t5 HD HD1 HCK
  have HB2 := Lib.hid HD2.out.bel
  go_loopw [8, 9, 10, 11, 12, 32] (fun v8 _ _ _ _ i wr => ∃ k acc, k ≤ P ∧ i = .int .i64 (k : Nat) ∧ acc = restsL g ((rws pl).take k) ∧ firstC gen g 0 (rws pl) = firstC gen g k ((rws pl).drop k) ∧ acc.length = k * g ∧ Oct acc ∧ wr.ownsRow w2.heap.size 5 1 v8 acc.length (byv acc) ∧ Below w2.heap.size w2 wr) (fun _ _ _ _ _ i _ => P - (intOf i).toNat)
  case atStart => exact ⟨0, [], by omega, rfl, by simp [restsL], by simp, by simp, by simp [Oct], World.ownsRow_nil _ _ _ _, Below.refl _ _⟩
  case round =>
    obtain ⟨k, acc, hk, rfl, hacc, hfi, hal, hao, hrow, hbel⟩ := hrel
    have HACC := Lib.hid hacc
    have HFI := Lib.hid hfi
    have HAL := Lib.hid hal
    have HAO := Lib.hid hao
    have HROW := Lib.hid hrow
    have HD3 := Lib.hid (HD2.out.later hbel)
    obtain ⟨t0, t1, t2, t3, t4, t5⟩ := HD3.out.sh.cells6
    have HBE := Lib.hid hbel
    clear hacc hfi hal hao hrow hbel
    by_cases hlt : k < P
    · obtain ⟨s, hs⟩ : ∃ s, pl[k]? = some s := ⟨_, List.getElem?_eq_getElem (by rw [HPL.out]; exact hlt)⟩
      have g1 : (k : Int) < P := by omega
      have hsm := List.mem_of_getElem? hs
      have hbe0 := HB2.out.trans (HBE.out.mono HB2.out.size)
      obtain ⟨hs1, hs2⟩ := HH.out.later hbe0 s hsm
      obtain ⟨ad, rfl, hc0⟩ := (HR.out.later hbe0) k (scv s) (scs_get hs)
      unfold scv at hc0
      have hst := firstC_step (gen := gen) (g := g) (rws_get hs)
      have hon := HONE.out k s.raw s.A s.c wr hs2 (HO.out s hsm) hs1 (by omega)
      have hln : oneC gen g k s.raw = 0 → s.raw.length = g + 15 := oneC_len
      have hoo := restL_oct (g := g) (HO.out s hsm)
      have htk : (rws pl).take (k + 1) = (rws pl).take k ++ [s.raw] := take_snoc_pk (rws_get hs)
      obtain ⟨sA, sr, sc⟩ := s
      simp only at hs hsm hs1 hs2 hc0 hst hon hln hoo htk
      rename_i adx
      clear hs hsm hs2 hbe0
      have HST := Lib.hid hst
      have HOO := Lib.hid hoo
      have HTK := Lib.hid htk
      have HLN := Lib.hid hln
      clear hst hoo htk hln
      obtain ⟨cd, hcd⟩ : ∃ cd, cd = oneC gen g k sr := ⟨_, rfl⟩
      rw [← hcd] at hon HST HLN
      by_cases hz : cd = 0
      · subst hz
        rw [if_pos rfl] at HST
        have hrl := restL_len (HLN.out rfl)
        obtain ⟨rs, hrs⟩ : ∃ rs, rs = restL g sr := ⟨_, rfl⟩
        rw [if_pos rfl, ← hrs] at hon
        rw [← hrs] at HOO hrl
        have HON := Lib.hid hon
        have HRS := Lib.hid hrs
        have HRL := Lib.hid hrl
        have hab : acc.length ≤ 1000000 := by rw [HAL.out]; exact Nat.mul_le_mul (show k ≤ 1000 by omega) hg1.2
        have HAB := Lib.hid hab
        obtain ⟨A8, c8, rfl, -, hc8, -⟩ := own_formc HROW.out
        clear hon hrs hrl hcd hab
        go_wp2_with (first
          | (go_at_call 32; (with_reducible refine HON.out.mono ?_); rintro e w3 ⟨⟨A3, c3, rfl, hr3⟩, hb3⟩; have HD4 := Lib.hid (HD3.out.later hb3); have HR3 := Lib.hid hr3; have HROW3 := Lib.hid (ownsRow_later HROW.out hb3); have HBE3 := Lib.hid (HBE.out.trans (hb3.mono HBE.out.size)); clear hr3 hb3)
          | (at_builtin; refine wpList_append_any _ rfl _ _ 47 rfl w2.heap.size 5 i0 _ 1 1 Try.underlying47 hi0 hz0 hz1 hz2 rfl (by decide) (.slice A8 acc.length c8) acc.length (byv acc) rfl HROW3.out A3 rs.length c3 (byv rs) rfl (by simp [byv_len]) HR3.out (byv_one rs) (by have := HAB.out; have := HRL.out; unfold maxLen; omega) (by have := HAB.out; have := HRL.out; omega) (by have := HBE3.out.size; omega) ?_; intro v4 w4 hown4 hg4 hat4; rw [← byv_app, ← List.length_append] at hown4; have HROW4 := Lib.hid hown4; have HBE4 := Lib.hid (HBE3.out.grown hg4 HBE3.out.size fun b hb => (HROW3.out.lt b hb).1); clear hown4 hg4 hat4)
          | fail "no")
        go_roundw
        case rel => exact ⟨k + 1, acc ++ rs, by omega, by go_num, by rw [HTK.out, restsL_snoc, ← HACC.out, HRS.out], by rw [HFI.out, HST.out], by rw [List.length_append, HAL.out, HRL.out, Nat.succ_mul], HAO.out.app HOO.out, HROW4.out, HBE4.out⟩
        case measure => simp [intOf]; omega
      · rw [if_neg hz] at HST hon
        have HON := Lib.hid hon
        have hcn1 : (cd != 0) = true := bne_iff_ne.2 hz
        have hcn2 : (cd == 0) = false := beq_eq_false_iff_ne.2 hz
        have hdc : DC = cd := by have h1 := HDC.out; rw [HFI.out, HST.out, if_neg hz] at h1; exact h1
        have hdp : DP = zeroPic := by have h1 := HDP.out; rw [hdc, if_neg hz] at h1; exact h1
        have HDC1 := Lib.hid hdc
        have HDP1 := Lib.hid hdp
        clear hon hdc hdp hcd
        go_wp2_with (first
          | (go_at_call 32; (with_reducible refine HON.out.mono ?_); rintro e w3 ⟨⟨A3, c3, rfl, hr3⟩, hb3⟩; have HD4 := Lib.hid (HD3.out.later hb3); clear hr3 hb3; obtain ⟨r0, r1, r2, r3, r4⟩ := HD4.out.res.cells5; have f0 := HD4.out.res.frozen 0; have f1 := HD4.out.res.frozen 1; have f2 := HD4.out.res.frozen 2; have f3 := HD4.out.res.frozen 3; have f4 := HD4.out.res.frozen 4)
          | fail "no")
        exact im_end _ _ HD4.out.zero.1 rfl rfl ⟨by rw [HDC1.out, HDP1.out]; exact imRes_zero _ _ cd, HD4.out.zero.2⟩
    · obtain rfl : k = P := by omega
      have hlen : (rws pl).length = k := by rw [rws_len, HPL.out]
      have hfi0 : firstC gen g 0 (rws pl) = 0 := by rw [HFI.out, List.drop_of_length_le (by omega)]; rfl
      have hacc : acc = restsL g (rws pl) := by rw [HACC.out, List.take_of_length_le (by omega)]
      have hdc : DC = if picB s t q acc l = true then 0 else 4 := by rw [HDC.out, if_pos hfi0, hacc]
      have hdp : DP = if DC = 0 then picAt acc s l else zeroPic := by rw [HDP.out, hacc]
      have hab : acc.length ≤ 1000000 := by rw [HAL.out]; exact Nat.mul_le_mul (show k ≤ 1000 by omega) hg1.2
      have hTa : 12 + 9 * s + 4 * l ≤ acc.length := by
        have h1 := HG.out.all
        have h2 := HG.out.t
        rw [HAL.out]
        have h3 := HS.out
        have h4 := HL.out
        omega
      have hsb : s ≤ 3000 ∧ l ≤ 5000 := by
        have h1 := HG.out.t1
        have h2 := HG.out.t
        have h3 := HS.out
        have h4 := HL.out
        omega
      have HAB := Lib.hid hab
      have HTA := Lib.hid hTa
      obtain ⟨A8, c8, rfl, hr8, hc8, -⟩ := own_formc HROW.out
      have HR8 := Lib.hid hr8
      have HDC1 := Lib.hid hdc
      have HDP1 := Lib.hid hdp
      have hrd : Calls Try.prog 33 #[.slice A8 acc.length c8] wr fun e w' => ∃ G h, e = .returned (.pointer (some ⟨G, 0, none⟩)) ∧ Dp w w' w.heap.size (w.heap.size + 1) G h x (acc.drop 0) := by
        refine (read_ok A8 c8 acc wr hr8 (by omega)).mono ?_
        rintro e w' ⟨G, h, rfl, hG, hH, hre, hb⟩
        have hd := HD3.out.later hb
        exact ⟨G, h, rfl, hd.sh, hd.res, hre, hd.bel, by omega, Nat.le_trans HD3.out.bel.size hG, hre.lt (by omega)⟩
      have HRD := Lib.hid hrd
      clear hlen hfi0 hacc hdc hdp hab hTa hrd hr8 t0 t1 t2 t3 t4 t5
      have HT1 : Hid (∀ W S R G h, Dp w W S R G h x (acc.drop 0) → Calls Try.prog 34 #[.pointer (some ⟨G, 0, none⟩), .int .i64 8] W fun e w' => e = .returned (.int .u64 (nf acc 0 8)) ∧ Dp w w' S R G h x (acc.drop 8)) := Lib.hid fun W S R G h k => takeP k 8 8 rfl (by have := HTA.out; omega) HAB.out HAO.out
      have HT2 : Hid (∀ W S R G h, Dp w W S R G h x (acc.drop 8) → Calls Try.prog 34 #[.pointer (some ⟨G, 0, none⟩), .int .i64 2] W fun e w' => e = .returned (.int .u64 (nf acc 8 2)) ∧ Dp w w' S R G h x (acc.drop 10)) := Lib.hid fun W S R G h k => takeP k 2 2 rfl (by have := HTA.out; omega) HAB.out HAO.out
      have HT3 : Hid (∀ W S R G h, Dp w W S R G h x (acc.drop 10) → Calls Try.prog 34 #[.pointer (some ⟨G, 0, none⟩), .int .i64 2] W fun e w' => e = .returned (.int .u64 (nf acc 10 2)) ∧ Dp w w' S R G h x (acc.drop 12)) := Lib.hid fun W S R G h k => takeP k 2 2 rfl (by have := HTA.out; omega) HAB.out HAO.out
      have b2 := nf_lt HAO.out 8 (n := 2) (by decide)
      have b3 := nf_lt HAO.out 10 (n := 2) (by decide)
      obtain ⟨sq, hsq⟩ : ∃ sq, sq = nf acc 0 8 := ⟨_, rfl⟩
      obtain ⟨sg, hsg⟩ : ∃ sg, sg = nf acc 8 2 := ⟨_, rfl⟩
      obtain ⟨ix, hix⟩ : ∃ ix, ix = nf acc 10 2 := ⟨_, rfl⟩
      rw [← hsq] at HT1
      rw [← hsg] at HT2 b2
      rw [← hix] at HT3 b3
      have HSQ := Lib.hid hsq
      have HSG := Lib.hid hsg
      have HIX := Lib.hid hix
      clear hsq hsg hix
      have e1 : IntKind.i64.wrap (sg : Int) = sg := IntWalk.i64_in _ (by omega)
      have e2 : IntKind.i64.wrap (ix : Int) = ix := IntWalk.i64_in _ (by omega)
      have e3 : IntKind.i64.wrap ((sg : Int) - 1) = (sg : Int) - 1 := IntWalk.i64_in _ (by omega)
      obtain ⟨S, hS⟩ : ∃ S, S = w.heap.size := ⟨_, rfl⟩
      have HSS := Lib.hid hS
      obtain ⟨ac, hac⟩ : ∃ ac, (decide ((sg : Int) - 1 < s) && decide ((ix : Int) < t)) = ac := ⟨_, rfl⟩
      have HAC := Lib.hid hac
      clear hac
      go_upto_region 16 with (first
          | (go_at_call 33; (with_reducible refine HRD.out.mono ?_); rintro e w3 ⟨G, h, rfl, hd⟩; have HP0 := Lib.hid hd; clear hd)
          | (go_at_call 34; (with_reducible refine (HT1.out _ _ _ _ _ HP0.out).mono ?_); rintro e w4 ⟨rfl, hd⟩; have HP1 := Lib.hid hd; clear hd)
          | (go_at_call 34; (with_reducible refine (HT2.out _ _ _ _ _ HP1.out).mono ?_); rintro e w5 ⟨rfl, hd⟩; have HP2 := Lib.hid hd; clear hd)
          | (go_at_call 34; (with_reducible refine (HT3.out _ _ _ _ _ HP2.out).mono ?_); rintro e w6 ⟨rfl, hd⟩; have HP3 := Lib.hid hd; clear hd)
          | fail "no")
      have hdq : Dq w (w6.alloc (.cells #[.int .u64 sq, .int .i64 ((sg : Int) - 1), .int .i64 ix, .slice none 0 0, .slice none 0 0] 28)) (w6.heap.size + 1) w.heap.size (w.heap.size + 1) w6.heap.size G h x sq ((sg : Int) - 1) ix (.slice none 0 0) [] (.slice none 0 0) [] (acc.drop 12) := by
        obtain ⟨cr, hcr⟩ := HP3.out.re.blk
        exact ⟨HP3.out.later ((Below.refl w6.heap.size w6).alloc (Nat.le_refl _) _), Blk.new w6 28 _, World.ownsRow_nil _ _ _ _, World.ownsRow_nil _ _ _ _, HP3.out.sh.lt, HP3.out.res.lt, hcr.lt, HP3.out.far.2.2, Nat.lt_succ_self _⟩
      have HDQ := Lib.hid hdq
      clear HT1 HT2 HT3 HRD HP0 HP1 HP2 HP3 hdq e1 e2 e3
      generalize w6.alloc (.cells #[.int .u64 sq, .int .i64 ((sg : Int) - 1), .int .i64 ix, .slice none 0 0, .slice none 0 0] 28) = W0 at HDQ ⊢
      obtain ⟨X, hX⟩ : ∃ X, X = w6.heap.size := ⟨_, rfl⟩
      rw [← hX] at HDQ ⊢
      clear hX w3 w4 w5 w6
      obtain ⟨t0, t1, t2, t3, t4, t5⟩ := HDQ.out.dp.sh.cells6
      obtain ⟨m0, m1, m2, m3, m4⟩ := HDQ.out.im.cells5
      go_cut [15] (fun ok wx => ok = .bool ac ∧ wx = W0)
      case first =>
        by_cases h1 : (sg : Int) - 1 < x.s
        · have hd1 : decide ((sg : Int) - 1 < x.s) = true := decide_eq_true h1
          go_wp2_with fail
          go_meet
          refine ⟨?_, rfl⟩
          rw [← HAC.out, ← HS.out, ← HT.out, hd1]
          rfl
        · have hd1 : decide ((sg : Int) - 1 < x.s) = false := decide_eq_false h1
          go_wp2_with fail
          go_meet
          refine ⟨?_, rfl⟩
          rw [← HAC.out, ← HS.out, ← HT.out, hd1]
          rfl
      case rest =>
        obtain ⟨rfl, rfl⟩ := hcut
        go_wp2_with fail
        clear t0 t1 t2 t3 t4 t5 m0 m1 m2 m3 m4
        go_loopw [15, 16, 79] (fun ok _ i wr => ∃ k v3, k ≤ s ∧ i = .int .i64 (k : Nat) ∧ ok = .bool (ac && (segsAt acc k).all (fun c => decide (c.1 ≤ 2))) ∧ Dq w wr (X + 1) w.heap.size (w.heap.size + 1) X G h x sq ((sg : Int) - 1) ix v3 (segsAt acc k) (.slice none 0 0) [] (acc.drop (12 + 9 * k))) (fun _ _ i _ => s - (intOf i).toNat)
        case atStart => exact ⟨0, _, by omega, rfl, by simp [segsAt], HDQ.out⟩
        case round =>
          rename World => w9
          obtain ⟨k, v3, hk2, rfl, rfl, hD⟩ := hrel
          have HD := Lib.hid hD
          by_cases hlt : k < s
          · have g1 : (k : Int) < x.s := by have := HS.out; omega
            have ht1 : ∀ W, Dq w W (X + 1) w.heap.size (w.heap.size + 1) X G h x sq ((sg : Int) - 1) ix v3 (segsAt acc k) (.slice none 0 0) [] (acc.drop (12 + 9 * k)) → Calls Try.prog 34 #[.pointer (some ⟨G, 0, none⟩), .int .i64 1] W fun e w' => e = .returned (.int .u64 (nf acc (12 + 9 * k) 1)) ∧ Dq w w' (X + 1) w.heap.size (w.heap.size + 1) X G h x sq ((sg : Int) - 1) ix v3 (segsAt acc k) (.slice none 0 0) [] (acc.drop (13 + 9 * k)) := fun W q => by
              rw [show 13 + 9 * k = 12 + 9 * k + 1 by omega]
              exact takeQ q 1 1 rfl (by have := HTA.out; omega) HAB.out HAO.out
            have ht2 : ∀ W, Dq w W (X + 1) w.heap.size (w.heap.size + 1) X G h x sq ((sg : Int) - 1) ix v3 (segsAt acc k) (.slice none 0 0) [] (acc.drop (13 + 9 * k)) → Calls Try.prog 34 #[.pointer (some ⟨G, 0, none⟩), .int .i64 8] W fun e w' => e = .returned (.int .u64 (nf acc (13 + 9 * k) 8)) ∧ Dq w w' (X + 1) w.heap.size (w.heap.size + 1) X G h x sq ((sg : Int) - 1) ix v3 (segsAt acc k) (.slice none 0 0) [] (acc.drop (21 + 9 * k)) := fun W q => by
              rw [show 21 + 9 * k = 13 + 9 * k + 8 by omega]
              exact takeQ q 8 8 rfl (by have := HTA.out; omega) HAB.out HAO.out
            have b1 := nf_lt HAO.out (12 + 9 * k) (n := 1) (by decide)
            have hes := segsAt_snoc acc k
            unfold segAt at hes
            obtain ⟨a, ha⟩ : ∃ a, a = nf acc (12 + 9 * k) 1 := ⟨_, rfl⟩
            obtain ⟨b, hb⟩ : ∃ b, b = nf acc (13 + 9 * k) 8 := ⟨_, rfl⟩
            rw [← ha] at ht1 b1 hes
            rw [← hb] at ht2 hes
            have HT1 := Lib.hid ht1
            have HT2 := Lib.hid ht2
            have HES := Lib.hid hes
            have e1 : IntKind.i64.wrap (a : Int) = a := IntWalk.i64_in _ (by omega)
            have hn3 := hD.r3
            rw [segsAt_len] at hn3
            obtain ⟨A3, c3, rfl, -, -, -⟩ := own_formc hn3
            have q6 := (hD.im).cells5.2.2.2.1
            have hok2 : ∀ cc : List (Nat × Nat), (cc ++ [(a, b)]).all (fun c => decide (c.1 ≤ 2)) = (cc.all (fun c => decide (c.1 ≤ 2)) && decide (a ≤ 2)) := fun cc => by rw [List.all_append]; simp
            have HOK2 := Lib.hid hok2
            clear ha hb ht1 ht2 hes hD hn3 hok2
            obtain ⟨t0, t1, t2, t3, t4, t5⟩ := HD.out.dp.sh.cells6
            obtain ⟨ok, hok⟩ : ∃ ok, ok = (ac && (segsAt acc k).all (fun c => decide (c.1 ≤ 2))) := ⟨_, rfl⟩
            rw [← hok]
            have HOK := Lib.hid hok.symm
            clear hok
            rcases ok with _ | _
            · skip
              go_wp2_with (first
                | (go_at_call 34; (with_reducible refine (HT1.out _ HD.out).mono ?_); rintro e w6 ⟨rfl, hD6⟩; have HD6 := Lib.hid hD6; clear hD6)
                | (go_at_call 34; (with_reducible refine (HT2.out _ HD6.out).mono ?_); rintro e w7 ⟨rfl, hD7⟩; have HD7 := Lib.hid hD7; have q7 := (hD7.im.alloc (.cells #[.int .i64 a, .int .u64 b] 72)).cells5.2.2.2.1; have hro := hD7.r3; rw [segsAt_len] at hro; have HRO := Lib.hid hro; have HX7 : Hid (X + 1 ≤ w7.heap.size) := Lib.hid hD7.im.lt; clear hD7 hro)
                | (at_builtin; refine wpList_append_any _ rfl _ _ 25 rfl (X + 1) 72 j0 _ 2 16 Try.underlying25 hj0 y0 y1 y2 rfl (by decide) _ k (sgs (segsAt acc k)) rfl ((HRO.out.alloc _).alloc _) (some ⟨w7.heap.size + 1, 0, none⟩) 1 1 (sgv (a, b)) rfl rfl (Rd.blk_all (Blk.new_ _ _ _ (by simp))) (by intro u hu; simp [sgv] at hu; rcases hu with rfl | rfl <;> rfl) (by unfold maxLen; omega) (by omega) (by have := HX7.out; simp; omega) ?_; intro v8 w8 hown8 hg8 hat8; obtain ⟨A9, c9, rfl, -, -, -⟩ := own_formc hown8; obtain ⟨p8, f8⟩ := HD7.out.open3 (((Below.refl w7.heap.size w7).alloc (Nat.le_refl _) _).alloc (by simp) _) hg8; have HP := Lib.hid (HD7.out.push3 (((Below.refl w7.heap.size w7).alloc (Nat.le_refl _) _).alloc (by simp) _) hg8 (a, b) (by rw [segsAt_len]; exact hown8)); clear hown8 hg8 hat8))
              go_roundw
              case rel => exact ⟨k + 1, _, by omega, by go_num, congrArg Value.bool (by rw [HES.out, HOK2.out, ← Bool.and_assoc, HOK.out]; rfl), by rw [HES.out, show 12 + 9 * (k + 1) = 21 + 9 * k by omega]; exact HP.out⟩
              case measure => simp [intOf]; omega
            · skip
              go_wp2_with (first
                | (go_at_call 34; (with_reducible refine (HT1.out _ HD.out).mono ?_); rintro e w6 ⟨rfl, hD6⟩; have HD6 := Lib.hid hD6; clear hD6)
                | (go_at_call 34; (with_reducible refine (HT2.out _ HD6.out).mono ?_); rintro e w7 ⟨rfl, hD7⟩; have HD7 := Lib.hid hD7; have q7 := (hD7.im.alloc (.cells #[.int .i64 a, .int .u64 b] 72)).cells5.2.2.2.1; have hro := hD7.r3; rw [segsAt_len] at hro; have HRO := Lib.hid hro; have HX7 : Hid (X + 1 ≤ w7.heap.size) := Lib.hid hD7.im.lt; clear hD7 hro)
                | (at_builtin; refine wpList_append_any _ rfl _ _ 25 rfl (X + 1) 72 j0 _ 2 16 Try.underlying25 hj0 y0 y1 y2 rfl (by decide) _ k (sgs (segsAt acc k)) rfl ((HRO.out.alloc _).alloc _) (some ⟨w7.heap.size + 1, 0, none⟩) 1 1 (sgv (a, b)) rfl rfl (Rd.blk_all (Blk.new_ _ _ _ (by simp))) (by intro u hu; simp [sgv] at hu; rcases hu with rfl | rfl <;> rfl) (by unfold maxLen; omega) (by omega) (by have := HX7.out; simp; omega) ?_; intro v8 w8 hown8 hg8 hat8; obtain ⟨A9, c9, rfl, -, -, -⟩ := own_formc hown8; obtain ⟨p8, f8⟩ := HD7.out.open3 (((Below.refl w7.heap.size w7).alloc (Nat.le_refl _) _).alloc (by simp) _) hg8; have HP := Lib.hid (HD7.out.push3 (((Below.refl w7.heap.size w7).alloc (Nat.le_refl _) _).alloc (by simp) _) hg8 (a, b) (by rw [segsAt_len]; exact hown8)); clear hown8 hg8 hat8))
              go_roundw
              case rel => exact ⟨k + 1, _, by omega, by go_num, congrArg Value.bool (by rw [HES.out, HOK2.out, ← Bool.and_assoc, HOK.out]; rw [Bool.true_and]; exact decide_eq_decide.2 (by omega)), by rw [HES.out, show 12 + 9 * (k + 1) = 21 + 9 * k by omega]; exact HP.out⟩
              case measure => simp [intOf]; omega
          · obtain rfl : k = s := by omega
            have g1 : ¬ (k : Int) < x.s := by have := HS.out; omega
            clear hD HDQ
            obtain ⟨ok1, hok1⟩ : ∃ ok1, ok1 = (ac && (segsAt acc k).all (fun c => decide (c.1 ≤ 2))) := ⟨_, rfl⟩
            rw [← hok1]
            have HOK1 := Lib.hid hok1
            obtain ⟨ss, hss⟩ : ∃ ss, ss = segsAt acc k := ⟨_, rfl⟩
            rw [← hss] at HD
            have HSG2 := Lib.hid hss
            clear hok1 hss
            obtain ⟨t0, t1, t2, t3, t4, t5⟩ := HD.out.dp.sh.cells6
            go_wp2_with fail
            clear t0 t1 t2 t3 t4 t5
            go_loopw [15, 17, 102] (fun ok _ i wr => ∃ j v4, j ≤ l ∧ i = .int .i64 (j : Nat) ∧ ok = .bool (ok1 && (mapsAt acc k j).all (fun p => decide ((p : Int) - 1 < q))) ∧ Dq w wr (X + 1) w.heap.size (w.heap.size + 1) X G h x sq ((sg : Int) - 1) ix v3 ss v4 (mapsAt acc k j) (acc.drop (12 + 9 * k + 4 * j))) (fun _ _ i _ => l - (intOf i).toNat)
            case atStart => exact ⟨0, _, by omega, rfl, by simp [mapsAt], HD.out⟩
            case round =>
              clear HD
              rename World => w8
              obtain ⟨j, v4, hj2, rfl, rfl, hD⟩ := hrel
              have HD := Lib.hid hD
              by_cases hlt2 : j < l
              · have g2 : (j : Int) < x.l := by have := HL.out; omega
                have hn4 := hD.r4
                rw [mapsAt_len] at hn4
                obtain ⟨A4, c4, rfl, -, -, -⟩ := own_formc hn4
                have ht1 : ∀ W, Dq w W (X + 1) w.heap.size (w.heap.size + 1) X G h x sq ((sg : Int) - 1) ix v3 ss (.slice A4 j c4) (mapsAt acc k j) (acc.drop (12 + 9 * k + 4 * j)) → Calls Try.prog 34 #[.pointer (some ⟨G, 0, none⟩), .int .i64 4] W fun e w' => e = .returned (.int .u64 (nf acc (12 + 9 * k + 4 * j) 4)) ∧ Dq w w' (X + 1) w.heap.size (w.heap.size + 1) X G h x sq ((sg : Int) - 1) ix v3 ss (.slice A4 j c4) (mapsAt acc k j) (acc.drop (12 + 9 * k + 4 * (j + 1))) := fun W q => by
                  rw [show 12 + 9 * k + 4 * (j + 1) = 12 + 9 * k + 4 * j + 4 by omega]
                  exact takeQ q 4 4 rfl (by have := HTA.out; omega) HAB.out HAO.out
                have b1 := nf_lt HAO.out (12 + 9 * k + 4 * j) (n := 4) (by decide)
                have hes := mapsAt_snoc acc k j
                unfold mapAt at hes
                obtain ⟨a, ha⟩ : ∃ a, a = nf acc (12 + 9 * k + 4 * j) 4 := ⟨_, rfl⟩
                rw [← ha] at ht1 b1 hes
                have HT1 := Lib.hid ht1
                have HES := Lib.hid hes
                have f1 : IntKind.i64.wrap (a : Int) = a := IntWalk.i64_in _ (by omega)
                have f2 : IntKind.i64.wrap ((a : Int) - 1) = (a : Int) - 1 := IntWalk.i64_in _ (by omega)
                have hok2 : ∀ cc : List Nat, (cc ++ [a]).all (fun p => decide ((p : Int) - 1 < q)) = (cc.all (fun p => decide ((p : Int) - 1 < q)) && decide ((a : Int) - 1 < q)) := fun cc => by rw [List.all_append]; simp
                have HOK2 := Lib.hid hok2
                obtain ⟨ok, hok⟩ : ∃ ok, ok = (ok1 && (mapsAt acc k j).all (fun p => decide ((p : Int) - 1 < q))) := ⟨_, rfl⟩
                rw [← hok]
                have HOK := Lib.hid hok.symm
                clear hok ha ht1 hes hD hn4 hok2
                go_upto_region 26 with (first
                  | (go_at_call 34; (with_reducible refine (HT1.out _ HD.out).mono ?_); rintro e w6 ⟨rfl, hD6⟩; have HD6 := Lib.hid hD6; clear hD6))
                clear HT1 HD
                obtain ⟨t0, t1, t2, t3, t4, t5⟩ := HD6.out.dp.sh.cells6
                obtain ⟨d0, d1, d2, d3, d4, d5⟩ := (HD6.out.later (below_drewN (Below.refl _ _) 1)).dp.sh.cells6
                have HDd : Hid (Dq w w6.drew (X + 1) w.heap.size (w.heap.size + 1) X G h x sq ((sg : Int) - 1) ix v3 ss (.slice A4 j c4) (mapsAt acc k j) (acc.drop (12 + 9 * k + 4 * (j + 1)))) := Lib.hid (HD6.out.later (below_drewN (Below.refl _ _) 1))
                go_cut [15] (fun o wx => o = .bool (ok && decide ((a : Int) - 1 < q)) ∧ Dq w wx (X + 1) w.heap.size (w.heap.size + 1) X G h x sq ((sg : Int) - 1) ix v3 ss (.slice A4 j c4) (mapsAt acc k j) (acc.drop (12 + 9 * k + 4 * (j + 1))))
                case first =>
                  rcases ok with _ | _
                  · go_quiet (fail)
                    go_wp2_with fail
                    go_meet
                    exact ⟨rfl, HD6.out.later (below_drewN (Below.refl _ _) _)⟩
                  · go_region_held3 (fun w' => w'.cell? ⟨w.heap.size, 0, none⟩ = some (.int .i64 x.m) ∧ w'.cell? ⟨w.heap.size, 1, none⟩ = some (.int .i64 x.b) ∧ w'.cell? ⟨w.heap.size, 2, none⟩ = some (.int .i64 x.s) ∧ w'.cell? ⟨w.heap.size, 3, none⟩ = some (.int .i64 x.t) ∧ w'.cell? ⟨w.heap.size, 4, none⟩ = some (.int .i64 x.n) ∧ w'.cell? ⟨w.heap.size, 5, none⟩ = some (.int .i64 x.l))
                      (exact ⟨by assumption, by assumption, by assumption, by assumption, by assumption, by assumption⟩)
                      (first
                        | (go_at_call 35; (with_reducible refine (HALL.out w6.drew).mono ?_); rintro e u1 ⟨rfl, hb1⟩; have HDa := Lib.hid (HDd.out.later hb1); clear hb1; obtain ⟨a0, a1, a2, a3, a4, a5⟩ := HDa.out.dp.sh.cells6)
                        | (go_at_call 23; (with_reducible refine (HSLO.out u1).mono ?_); rintro e u2 ⟨rfl, hb2⟩; have HDb := Lib.hid (HDa.out.later hb2); clear hb2; obtain ⟨b0, b1, b2, b3, b4, b5⟩ := HDb.out.dp.sh.cells6)
                        | fail "no arm")
                    all_goals
                      go_wp2_with fail
                      go_meet
                      exact ⟨rfl, HDb.out⟩
                case rest =>
                  clear t0 t1 t2 t3 t4 t5 d0 d1 d2 d3 d4 d5 HDd HD6
                  obtain ⟨rfl, hD⟩ := hcut
                  have HD7 := Lib.hid hD
                  have q7 := hD.im.cells5.2.2.2.2
                  have hro := hD.r4
                  rw [mapsAt_len] at hro
                  have HRO := Lib.hid hro
                  have HX7 : Hid (X + 1 ≤ wc.heap.size) := Lib.hid hD.im.lt
                  clear hD hro
                  go_wp2_with (at_builtin; refine wpList_append_any _ rfl _ _ 26 rfl (X + 1) 3 l0 _ 1 8 Try.underlying26 hl0 x0 x1 x2 rfl (by decide) _ j (mps (mapsAt acc k j)) rfl (HRO.out.alloc _) (some ⟨wc.heap.size, 0, none⟩) 1 1 [.int .i64 ((a : Int) - 1)] rfl rfl (Rd.one _ _ _ rfl) (by intro u hu; simp at hu; subst hu; rfl) (by unfold maxLen; omega) (by omega) (by have := HX7.out; simp; omega) ?_; intro v8 w8 hown8 hg8 hat8; obtain ⟨A9, c9, rfl, -, -, -⟩ := own_formc hown8; obtain ⟨p8, f8⟩ := HD7.out.open4 ((Below.refl wc.heap.size wc).alloc (Nat.le_refl _) _) hg8; have HP := Lib.hid (HD7.out.push4 ((Below.refl wc.heap.size wc).alloc (Nat.le_refl _) _) hg8 a (by rw [mapsAt_len]; exact hown8)); clear hown8 hg8 hat8)
                  go_roundw
                  case rel => exact ⟨j + 1, _, by omega, by go_num, congrArg Value.bool (by rw [HES.out, HOK2.out, ← Bool.and_assoc, HOK.out]), by rw [HES.out]; exact HP.out⟩
                  case measure => simp [intOf]; omega
              · obtain rfl : j = l := by omega
                have g2 : ¬ (j : Int) < x.l := by have := HL.out; omega
                clear hD
                obtain ⟨ok2, hok2⟩ : ∃ ok2, ok2 = (ok1 && (mapsAt acc k j).all (fun p => decide ((p : Int) - 1 < q))) := ⟨_, rfl⟩
                rw [← hok2]
                have HOK2 := Lib.hid hok2
                obtain ⟨ms, hms⟩ : ∃ ms, ms = mapsAt acc k j := ⟨_, rfl⟩
                rw [← hms] at HD
                have HMS := Lib.hid hms
                obtain ⟨rs, hrs⟩ : ∃ rs, rs = acc.drop (12 + 9 * k + 4 * j) := ⟨_, rfl⟩
                have hrl : rs.length ≤ 1000000 := by rw [hrs, List.length_drop]; have := HAB.out; omega
                have hro : Oct rs := by rw [hrs]; exact HAO.out.drop _
                rw [← hrs] at HD
                have HRS := Lib.hid hrs
                have HRO := Lib.hid hro
                have hrest := rest_ok G h rs w8 HD.out.dp.re (by omega)
                have HREST := Lib.hid hrest
                have HRL := Lib.hid hrl
                clear hok2 hms hrs hrl hro hrest
                go_wp2_with (first
                  | (go_at_call 36; (with_reducible refine HREST.out.mono ?_); rintro e wb ⟨rr, rfl, hown, hb⟩; have HDB := Lib.hid (HD.out.later hb); obtain ⟨Ar, cr, rfl, hrr, hcr, -⟩ := own_formc hown; have HRR := Lib.hid hrr; clear hown hb hrr))
                go_loopw [15, 19, 128] (fun o _ i wr => ∃ n : Nat, n ≤ rs.length ∧ i = .int .i64 n ∧ o = .bool (ok2 && zer (rs.take n)) ∧ EqW wr wb) (fun _ _ i _ => rs.length - (intOf i).toNat)
                case atStart => exact ⟨0, by omega, rfl, by simp [zer], rfl⟩
                case round =>
                  rename World => w7
                  obtain ⟨n, hn, rfl, rfl, hE⟩ := hrel
                  cases (show w7 = wb from hE)
                  clear hE
                  have hrb := HRL.out
                  by_cases hlt3 : n < rs.length
                  · obtain ⟨y, hy⟩ : ∃ y, rs[n]? = some y := ⟨_, List.getElem?_eq_getElem hlt3⟩
                    obtain ⟨ad, rfl, a0⟩ := HRR.out n (.int .u8 y) (by unfold byv; rw [List.getElem?_map, hy]; rfl)
                    have g3 : (n : Int) < rs.length := by omega
                    have g4 : (0 : Int) ≤ n := by omega
                    have hz := zer_snoc (rs.take n) y
                    rw [← take_snoc_pk hy] at hz
                    have HZ := Lib.hid hz
                    obtain ⟨ok, hok⟩ : ∃ ok, ok = (ok2 && zer (rs.take n)) := ⟨_, rfl⟩
                    rw [← hok]
                    have HOK := Lib.hid hok.symm
                    clear hz hy hok
                    rcases ok with _ | _
                    · go_wp2_with fail
                      go_roundw
                      case rel => exact ⟨n + 1, by omega, by go_num, congrArg Value.bool (by rw [HZ.out, ← Bool.and_assoc, HOK.out]; rfl), rfl⟩
                      case measure => simp [intOf]; omega
                    · go_wp2_with fail
                      go_roundw
                      case rel => exact ⟨n + 1, by omega, by go_num, congrArg Value.bool (by rw [HZ.out, ← Bool.and_assoc, HOK.out]; rfl), rfl⟩
                      case measure => simp [intOf]; omega
                  · obtain rfl : n = rs.length := by omega
                    have hpic : picB k t q acc j = (ok2 && zer rs) := by
                      have hix2 : decide ((ix : Int) < (t : Int)) = decide (ix < t) := decide_eq_decide.2 (by omega)
                      rw [HRS.out, HOK2.out, HOK1.out, ← HAC.out, hix2, HSG.out, HIX.out]
                      rfl
                    rw [List.take_length]
                    have hdc := HDC1.out
                    rw [hpic] at hdc
                    obtain ⟨ok, hok⟩ : ∃ ok, ok = (ok2 && zer rs) := ⟨_, rfl⟩
                    rw [← hok] at hdc ⊢
                    have HDC2 := Lib.hid hdc
                    clear hdc hpic hok
                    have hpc : picAt acc k j = ⟨sq, sg, ix, ss, ms⟩ := by rw [HSQ.out, HSG.out, HIX.out, HSG2.out, HMS.out]; rfl
                    have HPC := Lib.hid hpc
                    clear hpc
                    rcases ok with _ | _
                    · obtain ⟨r0, r1, r2, r3, r4⟩ := HDB.out.dp.res.cells5
                      have f0 := HDB.out.dp.res.frozen 0
                      have f1 := HDB.out.dp.res.frozen 1
                      have f2 := HDB.out.dp.res.frozen 2
                      have f3 := HDB.out.dp.res.frozen 3
                      have f4 := HDB.out.dp.res.frozen 4
                      have hd0 : D0 w wb x := ⟨HDB.out.dp.sh, HDB.out.dp.res, HDB.out.dp.bel⟩
                      have HD0 := Lib.hid hd0
                      have hdc : DC = 4 := HDC2.out
                      have hdp : DP = zeroPic := by rw [HDP1.out, hdc]; rfl
                      have HDC3 := Lib.hid hdc
                      have HDP3 := Lib.hid hdp
                      clear hd0 hdc hdp
                      go_wp2_with fail
                      exact im_end _ _ HD0.out.zero.1 rfl rfl ⟨by rw [HDC3.out, HDP3.out]; exact imRes_zero _ _ 4, HD0.out.zero.2⟩
                    · have hdc : DC = 0 := HDC2.out
                      have hdp : DP = ⟨sq, sg, ix, ss, ms⟩ := by rw [HDP1.out, hdc, ← HPC.out]; rfl
                      have HDC3 := Lib.hid hdc
                      have HDP3 := Lib.hid hdp
                      obtain ⟨A3, c3, rfl, -, -, hb3⟩ := own_formc HDB.out.r3
                      obtain ⟨A4, c4, rfl, -, -, hb4⟩ := own_formc HDB.out.r4
                      have HB3 := Lib.hid hb3
                      have HB4 := Lib.hid hb4
                      clear hb3 hb4
                      obtain ⟨r0, r1, r2, r3, r4⟩ := HDB.out.dp.res.cells5
                      have f0 := HDB.out.dp.res.frozen 0
                      have f1 := HDB.out.dp.res.frozen 1
                      have f2 := HDB.out.dp.res.frozen 2
                      have f3 := HDB.out.dp.res.frozen 3
                      have f4 := HDB.out.dp.res.frozen 4
                      obtain ⟨m0, m1, m2, m3, m4⟩ := HDB.out.im.cells5
                      clear hdc hdp
                      go_wp2_with fail
                      obtain ⟨d1, d2, d3, d4⟩ := HDB.out.done
                      refine im_end _ _ d1 rfl rfl ⟨?_, d4⟩
                      rw [HDC3.out, HDP3.out]
                      exact ⟨A3, c3, A4, c4, rfl, Rd.of_own d2, Rd.of_own d3, fun ad e => by have := HB3.out ad e; have := HDB.out.far.1; omega, fun ad e => by have := HB4.out ad e; have := HDB.out.far.1; omega⟩
end Go.Proofs.Ytcpngnnnggpfpaa
