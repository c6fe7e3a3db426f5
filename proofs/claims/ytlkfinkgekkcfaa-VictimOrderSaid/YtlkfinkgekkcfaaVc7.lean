/- The walk of VictimOrder. No further condition. -/
import Derived.Test.YtlkfinkgekkcfaaVc3
import Derived.Test.YtlkfinkgekkcfaaVpl
import Derived.OpenShut
namespace Go.Proofs.Ytlkfinkgekkcfaa
open Go.RowKit
attribute [local go_sem ↓] Go.wp_at_zero Go.wp_at_succ

/-- The four boxes that the closure reads. -/
structure Ob (w : World) (g h : Nat) (q : Int) (b : Nat) (now : Int) (x y z : Sg) : Prop where
  pol : Blk w g 28 #[.int .i64 q]
  row : Blk w h 26 #[.int .i64 x.1, .int .i64 x.2.1, .int .u64 x.2.2, .int .i64 y.1, .int .i64 y.2.1, .int .u64 y.2.2, .int .i64 z.1, .int .i64 z.2.1, .int .u64 z.2.2]
  cap : Blk w (h + 1) 5 #[.int .u8 b]
  now : Blk w (h + 1 + 1) 23 #[.int .u64 now]
theorem Ob.later {w w' : World} {g h b : Nat} {q now : Int} {x y z : Sg} (k : Ob w g h q b now x y z) (hb : Below w.heap.size w w') : Ob w' g h q b now x y z := ⟨k.pol.later hb, k.row.later hb, k.cap.later hb, k.now.later hb⟩
set_option maxHeartbeats 3200000 in
theorem ord_ok (g h b : Nat) (q now : Int) (x y z s t : Sg) (i j : Nat) (u v : Int) (hu : u = i) (hv : v = j) (w : World) (k : Ob w g h q b now x y z) (hb : b ≤ 255) (kn : 0 ≤ now) (kn2 : now ≤ 18446744073709551615) (hs : Wf s) (ht : Wf t) (hi : i < 3) (hj : j < 3)
    (a0 : w.cell? ⟨h, i * 3, none⟩ = some (.int .i64 s.1)) (a1 : w.cell? ⟨h, i * 3 + 1, none⟩ = some (.int .i64 s.2.1)) (a2 : w.cell? ⟨h, i * 3 + 2, none⟩ = some (.int .u64 s.2.2))
    (b0 : w.cell? ⟨h, j * 3, none⟩ = some (.int .i64 t.1)) (b1 : w.cell? ⟨h, j * 3 + 1, none⟩ = some (.int .i64 t.2.1)) (b2 : w.cell? ⟨h, j * 3 + 2, none⟩ = some (.int .u64 t.2.2)) :
    Calls Try.prog 9 #[.int .i64 u, .int .i64 v, .pointer (some ⟨g, 0, none⟩), .pointer (some ⟨h, 0, none⟩), .pointer (some ⟨h + 1, 0, none⟩), .pointer (some ⟨h + 1 + 1, 0, none⟩)] w fun e w' => e = .returned (.bool (better q s t (1 + b) now)) ∧ Below w.heap.size w w' := by
  subst hu hv
  have c0 := k.pol.cells1
  have c1 := k.cap.cells1
  have c2 := k.now.cells1
  have g1 : (0 : Int) ≤ i := by omega
  have g2 : (i : Int) < 3 := by omega
  have g3 : (0 : Int) ≤ j := by omega
  have g4 : (j : Int) < 3 := by omega
  clear k
  have hw1 : IntKind.i64.wrap (1 + IntKind.i64.wrap (b : Int)) = 1 + b := by rw [IntWalk.i64_in b (by omega), IntWalk.i64_in _ (by omega)]
  go_enter Try.func9, Try.ntmps9
  go_wp2
  go_region_held3 (fun w' => w'.cell? ⟨g, 0, none⟩ = some (.int .i64 q) ∧ w'.cell? ⟨h + 1, 0, none⟩ = some (.int .u8 b) ∧ w'.cell? ⟨h + 1 + 1, 0, none⟩ = some (.int .u64 now) ∧ w'.cell? ⟨h, i * 3, none⟩ = some (.int .i64 s.1) ∧ w'.cell? ⟨h, i * 3 + 1, none⟩ = some (.int .i64 s.2.1) ∧ w'.cell? ⟨h, i * 3 + 2, none⟩ = some (.int .u64 s.2.2) ∧ w'.cell? ⟨h, j * 3, none⟩ = some (.int .i64 t.1) ∧ w'.cell? ⟨h, j * 3 + 1, none⟩ = some (.int .i64 t.2.1) ∧ w'.cell? ⟨h, j * 3 + 2, none⟩ = some (.int .u64 t.2.2))
    (first | go_keep | exact ⟨by assumption, by assumption, by assumption, by assumption, by assumption, by assumption, by assumption, by assumption, by assumption⟩)
    (first | (go_at_call 10; (with_reducible refine (better_any q s t (1 + b) now _ hs ht kn kn2).mono ?_); rintro e w1 ⟨rfl, hb1⟩; have p0 := (hb1.cell (World.block_lt_of_cell? w _ c0)).trans c0; have p1 := (hb1.cell (World.block_lt_of_cell? w _ c1)).trans c1; have p2 := (hb1.cell (World.block_lt_of_cell? w _ c2)).trans c2; have p3 := (hb1.cell (World.block_lt_of_cell? w _ a0)).trans a0; have p4 := (hb1.cell (World.block_lt_of_cell? w _ a1)).trans a1; have p5 := (hb1.cell (World.block_lt_of_cell? w _ a2)).trans a2; have p6 := (hb1.cell (World.block_lt_of_cell? w _ b0)).trans b0; have p7 := (hb1.cell (World.block_lt_of_cell? w _ b1)).trans b1; have p8 := (hb1.cell (World.block_lt_of_cell? w _ b2)).trans b2))
  go_wp2
  go_ret
  exact ⟨rfl, (below_drewN (Below.refl _ w) 1).trans hb1⟩
structure Oc (w0 w : World) (g h : Nat) (q : Int) (b : Nat) (now : Int) (x y z : Sg) : Prop where
  ob : Ob w g h q b now x y z
  bel : Below w0.heap.size w0 w
  base : w0.heap.size ≤ w.heap.size
theorem Oc.later {w0 w w' : World} {g h b : Nat} {q now : Int} {x y z : Sg} (k : Oc w0 w g h q b now x y z) (hb : Below w.heap.size w w') : Oc w0 w' g h q b now x y z := ⟨k.ob.later hb, k.bel.trans (hb.mono k.base), Nat.le_trans k.base hb.size⟩
theorem ord01 {g h b : Nat} {q now : Int} {x y z : Sg} {w0 w : World} (o : Oc w0 w g h q b now x y z) (hb : b ≤ 255) (kn : 0 ≤ now) (kn2 : now ≤ 18446744073709551615) (hs : Wf x) (ht : Wf y) :
    Calls Try.prog 9 #[.int .i64 0, .int .i64 1, .pointer (some ⟨g, 0, none⟩), .pointer (some ⟨h, 0, none⟩), .pointer (some ⟨h + 1, 0, none⟩), .pointer (some ⟨h + 1 + 1, 0, none⟩)] w fun e w' => e = .returned (.bool (better q x y (1 + b) now)) ∧ Oc w0 w' g h q b now x y z := by
  have k := o.ob
  refine (ord_ok g h b q now x y z x y 0 1 0 1 rfl rfl w k hb kn kn2 hs ht (by omega) (by omega) (k.row.at_ (i := 0) rfl) (k.row.at_ (i := 1) rfl) (k.row.at_ (i := 2) rfl) (k.row.at_ (i := 3) rfl) (k.row.at_ (i := 4) rfl) (k.row.at_ (i := 5) rfl)).mono ?_
  rintro e w' ⟨rfl, h1⟩
  exact ⟨rfl, o.later h1⟩
theorem ord10 {g h b : Nat} {q now : Int} {x y z : Sg} {w0 w : World} (o : Oc w0 w g h q b now x y z) (hb : b ≤ 255) (kn : 0 ≤ now) (kn2 : now ≤ 18446744073709551615) (hs : Wf y) (ht : Wf x) :
    Calls Try.prog 9 #[.int .i64 1, .int .i64 0, .pointer (some ⟨g, 0, none⟩), .pointer (some ⟨h, 0, none⟩), .pointer (some ⟨h + 1, 0, none⟩), .pointer (some ⟨h + 1 + 1, 0, none⟩)] w fun e w' => e = .returned (.bool (better q y x (1 + b) now)) ∧ Oc w0 w' g h q b now x y z := by
  have k := o.ob
  refine (ord_ok g h b q now x y z y x 1 0 1 0 rfl rfl w k hb kn kn2 hs ht (by omega) (by omega) (k.row.at_ (i := 3) rfl) (k.row.at_ (i := 4) rfl) (k.row.at_ (i := 5) rfl) (k.row.at_ (i := 0) rfl) (k.row.at_ (i := 1) rfl) (k.row.at_ (i := 2) rfl)).mono ?_
  rintro e w' ⟨rfl, h1⟩
  exact ⟨rfl, o.later h1⟩
theorem ord12 {g h b : Nat} {q now : Int} {x y z : Sg} {w0 w : World} (o : Oc w0 w g h q b now x y z) (hb : b ≤ 255) (kn : 0 ≤ now) (kn2 : now ≤ 18446744073709551615) (hs : Wf y) (ht : Wf z) :
    Calls Try.prog 9 #[.int .i64 1, .int .i64 2, .pointer (some ⟨g, 0, none⟩), .pointer (some ⟨h, 0, none⟩), .pointer (some ⟨h + 1, 0, none⟩), .pointer (some ⟨h + 1 + 1, 0, none⟩)] w fun e w' => e = .returned (.bool (better q y z (1 + b) now)) ∧ Oc w0 w' g h q b now x y z := by
  have k := o.ob
  refine (ord_ok g h b q now x y z y z 1 2 1 2 rfl rfl w k hb kn kn2 hs ht (by omega) (by omega) (k.row.at_ (i := 3) rfl) (k.row.at_ (i := 4) rfl) (k.row.at_ (i := 5) rfl) (k.row.at_ (i := 6) rfl) (k.row.at_ (i := 7) rfl) (k.row.at_ (i := 8) rfl)).mono ?_
  rintro e w' ⟨rfl, h1⟩
  exact ⟨rfl, o.later h1⟩
theorem ord02 {g h b : Nat} {q now : Int} {x y z : Sg} {w0 w : World} (o : Oc w0 w g h q b now x y z) (hb : b ≤ 255) (kn : 0 ≤ now) (kn2 : now ≤ 18446744073709551615) (hs : Wf x) (ht : Wf z) :
    Calls Try.prog 9 #[.int .i64 0, .int .i64 2, .pointer (some ⟨g, 0, none⟩), .pointer (some ⟨h, 0, none⟩), .pointer (some ⟨h + 1, 0, none⟩), .pointer (some ⟨h + 1 + 1, 0, none⟩)] w fun e w' => e = .returned (.bool (better q x z (1 + b) now)) ∧ Oc w0 w' g h q b now x y z := by
  have k := o.ob
  refine (ord_ok g h b q now x y z x z 0 2 0 2 rfl rfl w k hb kn kn2 hs ht (by omega) (by omega) (k.row.at_ (i := 0) rfl) (k.row.at_ (i := 1) rfl) (k.row.at_ (i := 2) rfl) (k.row.at_ (i := 6) rfl) (k.row.at_ (i := 7) rfl) (k.row.at_ (i := 8) rfl)).mono ?_
  rintro e w' ⟨rfl, h1⟩
  exact ⟨rfl, o.later h1⟩
set_option maxRecDepth 100000 in
set_option maxHeartbeats 12800000 in
theorem order_walk (p b : Nat) (x y z : Sg) (now : Int) (w : World) (hp : p ≤ 255) (hb : b ≤ 255) (hx : Wf x) (hy : Wf y) (hz : Wf z) (kn : 0 ≤ now) (kn2 : now ≤ 18446744073709551615) :
    Calls Try.prog 3 #[.int .u8 p, .agg #[.int .i64 x.1, .int .i64 x.2.1, .int .u64 x.2.2, .int .i64 y.1, .int .i64 y.2.1, .int .u64 y.2.2, .int .i64 z.1, .int .i64 z.2.1, .int .u64 z.2.2], .int .u8 b, .int .u64 now] w fun e w' => e = .returned (.bool true) ∧ Below w.heap.size w w' := by
  go_enter Try.func3, Try.ntmps3
  go_upto_region 4 with (go_at_call 8; (with_reducible refine (awake_ok _).mono ?_); rintro e w1 ⟨rfl, hb1⟩; have HB1 := Lib.hid hb1; clear hb1)
  have hr : Blk (((w.alloc (.cells #[.int .i64 x.1, .int .i64 x.2.1, .int .u64 x.2.2, .int .i64 y.1, .int .i64 y.2.1, .int .u64 y.2.2, .int .i64 z.1, .int .i64 z.2.1, .int .u64 z.2.2] 26)).alloc (.cells #[.int .u8 b] 5)).alloc (.cells #[.int .u64 now] 23)) w.heap.size 26 #[.int .i64 x.1, .int .i64 x.2.1, .int .u64 x.2.2, .int .i64 y.1, .int .i64 y.2.1, .int .u64 y.2.2, .int .i64 z.1, .int .i64 z.2.1, .int .u64 z.2.2] := ((Blk.new w 26 _).alloc _).alloc _
  have hc : Blk (((w.alloc (.cells #[.int .i64 x.1, .int .i64 x.2.1, .int .u64 x.2.2, .int .i64 y.1, .int .i64 y.2.1, .int .u64 y.2.2, .int .i64 z.1, .int .i64 z.2.1, .int .u64 z.2.2] 26)).alloc (.cells #[.int .u8 b] 5)).alloc (.cells #[.int .u64 now] 23)) (w.heap.size + 1) 5 #[.int .u8 b] := (Blk.new_ _ _ _ (by simp)).alloc _
  have hn : Blk (((w.alloc (.cells #[.int .i64 x.1, .int .i64 x.2.1, .int .u64 x.2.2, .int .i64 y.1, .int .i64 y.2.1, .int .u64 y.2.2, .int .i64 z.1, .int .i64 z.2.1, .int .u64 z.2.2] 26)).alloc (.cells #[.int .u8 b] 5)).alloc (.cells #[.int .u64 now] 23)) (w.heap.size + 1 + 1) 23 #[.int .u64 now] := Blk.new_ _ _ _ (by simp)
  have hs1 := HB1.out.size
  simp only [World.size_alloc] at hs1
  have ho : Oc w (w1.alloc (.cells #[.int .i64 ((p : Int) % 2)] 28)) w1.heap.size w.heap.size ((p : Int) % 2) b now x y z :=
    ⟨⟨Blk.new w1 _ _, (hr.later HB1.out).alloc _, (hc.later HB1.out).alloc _, (hn.later HB1.out).alloc _⟩, ((((((Below.refl _ w).alloc (Nat.le_refl _) _).alloc (by simp) _).alloc (by simp; omega) _).trans (HB1.out.mono (by simp; omega))).alloc (by omega) _), by simp; omega⟩
  have HO := Lib.hid ho
  clear hr hc hn ho
  obtain ⟨h, hh⟩ : ∃ h, h = w.heap.size := ⟨_, rfl⟩
  obtain ⟨g, hg⟩ : ∃ g, g = w1.heap.size := ⟨_, rfl⟩
  obtain ⟨q, hq⟩ : ∃ q, q = (p : Int) % 2 := ⟨_, rfl⟩
  rw [← hg, ← hh, ← hq] at HO
  rw [← hg, ← hh, ← hq]
  clear hh hg hs1 HB1 hq
  rcases h01 : better q x y (1 + b) now with _ | _
  · go_wp2_with (first
    | (go_at_call 9; (with_reducible refine (ord01 HO.out hb kn kn2 hx hy).mono ?_); rintro e w_ ⟨rfl, ho⟩; rw [h01]; have HO1 := Lib.hid ho; clear ho)
    | (go_at_call 9; (with_reducible refine (ord01 HO1.out hb kn kn2 hx hy).mono ?_); rintro e w_ ⟨rfl, ho⟩; rw [h01]; have HO2 := Lib.hid ho; clear ho)
    | fail "no")
    go_ret
    exact ⟨rfl, HO2.out.bel⟩
  · have h10 := better_asym h01
    rcases h12 : better q y z (1 + b) now with _ | _
    · go_wp2_with (first
    | (go_at_call 9; (with_reducible refine (ord01 HO.out hb kn kn2 hx hy).mono ?_); rintro e w_ ⟨rfl, ho⟩; rw [h01]; have HO1 := Lib.hid ho; clear ho)
    | (go_at_call 9; (with_reducible refine (ord10 HO1.out hb kn kn2 hy hx).mono ?_); rintro e w_ ⟨rfl, ho⟩; rw [h10]; have HO2 := Lib.hid ho; clear ho)
    | (go_at_call 9; (with_reducible refine (ord01 HO2.out hb kn kn2 hx hy).mono ?_); rintro e w_ ⟨rfl, ho⟩; rw [h01]; have HO3 := Lib.hid ho; clear ho)
    | (go_at_call 9; (with_reducible refine (ord12 HO3.out hb kn kn2 hy hz).mono ?_); rintro e w_ ⟨rfl, ho⟩; rw [h12]; have HO4 := Lib.hid ho; clear ho)
    | fail "no")
      go_ret
      exact ⟨rfl, HO4.out.bel⟩
    · have h02 := better_trans h01 h12
      go_wp2_with (first
    | (go_at_call 9; (with_reducible refine (ord01 HO.out hb kn kn2 hx hy).mono ?_); rintro e w_ ⟨rfl, ho⟩; rw [h01]; have HO1 := Lib.hid ho; clear ho)
    | (go_at_call 9; (with_reducible refine (ord10 HO1.out hb kn kn2 hy hx).mono ?_); rintro e w_ ⟨rfl, ho⟩; rw [h10]; have HO2 := Lib.hid ho; clear ho)
    | (go_at_call 9; (with_reducible refine (ord01 HO2.out hb kn kn2 hx hy).mono ?_); rintro e w_ ⟨rfl, ho⟩; rw [h01]; have HO3 := Lib.hid ho; clear ho)
    | (go_at_call 9; (with_reducible refine (ord12 HO3.out hb kn kn2 hy hz).mono ?_); rintro e w_ ⟨rfl, ho⟩; rw [h12]; have HO4 := Lib.hid ho; clear ho)
    | (go_at_call 9; (with_reducible refine (ord02 HO4.out hb kn kn2 hx hz).mono ?_); rintro e w_ ⟨rfl, ho⟩; rw [h02]; have HO5 := Lib.hid ho; clear ho)
    | fail "no")
      go_ret
      exact ⟨rfl, HO5.out.bel⟩
theorem okWide_arr {P : Program} {w : World} {r : Reach} {b0 : Nat} {t e : TypeId} {n : Nat} {v : Value} (ht : P.underlying t = some (.array n e)) (h : Value.okWide P w r b0 t v) : ∃ cs, v = .agg cs ∧ cs.size = P.cellsOf t := by
  simp only [Value.okWide, ht] at h
  obtain ⟨cs, h1, h2, _⟩ := h
  exact ⟨cs, h1, h2⟩
theorem seg_of {H : Type} {enc : TypeId × Value → H} {w : World} {base : Nat} {spare : Nat → Bool} {held : Bool} {fuel : Nat} {a b c : Value} {x : DataW H × List MemPlace} (h : DataW.trod enc Try.prog w base spare held fuel 25 [a, b, c] = some x) :
    ∃ s : Sg, a = .int .i64 s.1 ∧ b = .int .i64 s.2.1 ∧ c = .int .u64 s.2.2 ∧ Wf s := by
  obtain ⟨xs, n, -, -, -, hlen, hf⟩ := DataW.trod_struct Try.underlying25 h
  have k0 : Try.prog.cellsOf 22 = 1 := by kernel_rfl
  have k1 : Try.prog.cellsOf 3 = 1 := by kernel_rfl
  have k2 : Try.prog.cellsOf 23 = 1 := by kernel_rfl
  match xs, hlen with
  | [y0, y1, y2], _ =>
    have f0 := hf 0 _ rfl
    have f1 := hf 1 _ rfl
    have f2 := hf 2 _ rfl
    replace f0 : DataW.trod enc Try.prog w base spare held n 22 (List.take (Try.prog.cellsOf 22) (List.drop 0 [a, b, c])) = some y0 := f0
    rw [k0] at f0
    replace f1 : DataW.trod enc Try.prog w base spare held n 3 (List.take (Try.prog.cellsOf 3) (List.drop 1 [a, b, c])) = some y1 := f1
    rw [k1] at f1
    replace f2 : DataW.trod enc Try.prog w base spare held n 23 (List.take (Try.prog.cellsOf 23) (List.drop 2 [a, b, c])) = some y2 := f2
    rw [k2] at f2
    obtain ⟨n0, e0, -, -⟩ := DataW.trod_int Try.underlying22 (show _ = some y0 from f0)
    obtain ⟨n1, e1, -, -⟩ := DataW.trod_int Try.underlying3 (show _ = some y1 from f1)
    obtain ⟨n2, e2, -, w2⟩ := DataW.trod_int Try.underlying23 (show _ = some y2 from f2)
    exact ⟨(n0, n1, n2), List.head_eq_of_cons_eq e0, List.head_eq_of_cons_eq e1, List.head_eq_of_cons_eq e2, u64_in' w2⟩
theorem arr_of {H : Type} {enc : TypeId × Value → H} {w : World} {r : Reach} {b0 base : Nat} {spare : Nat → Bool} {held : Bool} {v : Value} {d : DataW H} {ps : List MemPlace} (k : DataW.Trod enc Try.prog w base spare held 26 v d ps) (o : Value.okWide Try.prog w r b0 26 v) :
    ∃ x y z : Sg, v = .agg #[.int .i64 x.1, .int .i64 x.2.1, .int .u64 x.2.2, .int .i64 y.1, .int .i64 y.2.1, .int .u64 y.2.2, .int .i64 z.1, .int .i64 z.2.1, .int .u64 z.2.2] ∧ Wf x ∧ Wf y ∧ Wf z := by
  obtain ⟨cs, rfl, hsz⟩ := okWide_arr Try.underlying26 o
  have h9 : Try.prog.cellsOf 26 = 9 := by kernel_rfl
  have h3 : Try.prog.cellsOf 25 = 3 := by kernel_rfl
  rw [h9] at hsz
  obtain ⟨l⟩ := cs
  match l, hsz with
  | [c0, c1, c2, c3, c4, c5, c6, c7, c8], _ =>
    obtain ⟨fuel, hf⟩ := k
    obtain ⟨xs, m, -, -, -, hlen, hg⟩ := DataW.trod_array Try.underlying26 hf
    match xs, hlen with
    | [y0, y1, y2], _ =>
      have g0 := hg 0 (by omega)
      have g1 := hg 1 (by omega)
      have g2 := hg 2 (by omega)
      rw [h3] at g0 g1 g2
      obtain ⟨s0, rfl, rfl, rfl, w0⟩ := seg_of (show _ = some y0 from g0)
      obtain ⟨s1, rfl, rfl, rfl, w1⟩ := seg_of (show _ = some y1 from g1)
      obtain ⟨s2, rfl, rfl, rfl, w2⟩ := seg_of (show _ = some y2 from g2)
      exact ⟨s0, s1, s2, rfl, w0, w1, w2⟩
theorem victimOrder_true {H : Type} {enc : TypeId × Value → H} {r : Reach} {b0 base : Nat} {spare : Nat → Bool} {held : Bool} (p : Int) (v : Value) (d : DataW H) (ps : List MemPlace) (b now : Int) (w : World) (hp : (Lit.int .u8 p).wf = true)
    (k : DataW.Trod enc Try.prog w base spare held 26 v d ps) (o : Value.okWide Try.prog w r b0 26 v) (hb : (Lit.int .u8 b).wf = true) (hn : (Lit.int .u64 now).wf = true) {Z : Prop} (_ : Z) :
    Calls Try.prog 3 #[.int .u8 p, v, .int .u8 b, .int .u64 now] w fun e w' => e = .returned (.bool true) ∧ Below w.heap.size w w' := by
  obtain ⟨x, y, z, rfl, hx, hy, hz⟩ := arr_of k o
  obtain ⟨b, rfl⟩ := Int.eq_ofNat_of_zero_le (u8_in hb).1
  obtain ⟨p, rfl⟩ := Int.eq_ofNat_of_zero_le (u8_in hp).1
  have h1 := u8_in hb
  have h2 := u8_in hp
  have h3 := u64_in' hn
  exact order_walk p b x y z now w (by omega) (by omega) hx hy hz h3.1 h3.2
end Go.Proofs.Ytlkfinkgekkcfaa
