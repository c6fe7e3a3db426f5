/- Decode: the walk. No further condition. -/
import Derived.Test.YtcpngnnnggpfpaaId
namespace Go.Proofs.Ytcpngnnnggpfpaa
open Go.RowKit
attribute [local go_sem ↓] Go.wp_at_zero Go.wp_at_succ

/-- The two first blocks. -/
structure D0 (w0 w : World) (x : Sh) : Prop where
  sh : Blk w w0.heap.size 23 #[.int .i64 x.m, .int .i64 x.b, .int .i64 x.s, .int .i64 x.t, .int .i64 x.n, .int .i64 x.l]
  res : Blk w (w0.heap.size + 1) 28 #[.int .u64 0, .int .i64 0, .int .i64 0, .slice none 0 0, .slice none 0 0]
  bel : Below w0.heap.size w0 w
theorem D0.later {w0 w w' : World} {x : Sh} (k : D0 w0 w x) (hb : Below w.heap.size w w') : D0 w0 w' x := ⟨k.sh.later hb, k.res.later hb, k.bel.trans (hb.mono k.bel.size)⟩
theorem D0.start (w : World) (x : Sh) : D0 w ((w.alloc (.cells #[.int .i64 x.m, .int .i64 x.b, .int .i64 x.s, .int .i64 x.t, .int .i64 x.n, .int .i64 x.l] 23)).alloc (.cells #[.int .u64 0, .int .i64 0, .int .i64 0, .slice none 0 0, .slice none 0 0] 28)) x :=
  ⟨(Blk.new w 23 _).alloc _, Blk.new_ _ _ _ (by simp), ((Below.refl _ _).alloc (Nat.le_refl _) _).alloc (by simp) _⟩
theorem D0.zero {w0 w : World} {x : Sh} (k : D0 w0 w x) :
    Blk (((((w.setCell ⟨w0.heap.size + 1, 0, none⟩ (.int .u64 0)).setCell ⟨w0.heap.size + 1, 1, none⟩ (.int .i64 0)).setCell ⟨w0.heap.size + 1, 2, none⟩ (.int .i64 0)).setCell ⟨w0.heap.size + 1, 3, none⟩ (.slice none 0 0)).setCell ⟨w0.heap.size + 1, 4, none⟩ (.slice none 0 0)) (w0.heap.size + 1) 28 #[.int .u64 0, .int .i64 0, .int .i64 0, .slice none 0 0, .slice none 0 0] ∧
    Below w0.heap.size w0 (((((w.setCell ⟨w0.heap.size + 1, 0, none⟩ (.int .u64 0)).setCell ⟨w0.heap.size + 1, 1, none⟩ (.int .i64 0)).setCell ⟨w0.heap.size + 1, 2, none⟩ (.int .i64 0)).setCell ⟨w0.heap.size + 1, 3, none⟩ (.slice none 0 0)).setCell ⟨w0.heap.size + 1, 4, none⟩ (.slice none 0 0)) := by
  obtain ⟨h1, h2⟩ := im_set k.res (.int .u64 0) (.int .i64 0) (.int .i64 0) (.slice none 0 0) (.slice none 0 0)
  exact ⟨h1, k.bel.trans (h2.toBelow k.bel.size fun b hb e => by omega)⟩
set_option maxRecDepth 100000 in
set_option maxHeartbeats 6400000 in
theorem dec_arg (x : Sh) (gen : Int) (A : Option Addr) (n c : Nat) (w : World) (h : chk x ≠ 0) :
    Calls Try.prog 10 #[.agg #[.int .i64 x.m, .int .i64 x.b, .int .i64 x.s, .int .i64 x.t, .int .i64 x.n, .int .i64 x.l], .int .u64 gen, .slice A n c] w fun e w' => ImRes w.heap.size w' e zeroPic 1 ∧ Below w.heap.size w w' := by
  have h1 : chk x = 1 := by unfold chk at h ⊢; split <;> simp_all
  have HCK := Lib.hid (fun W => h1 ▸ check_ok x W)
  have HD := Lib.hid (D0.start w x)
  obtain ⟨s0, s1, s2, s3, s4, s5⟩ := HD.out.sh.cells6
  clear h h1
  go_enter Try.func10, Try.ntmps10
  go_wp2_with (first
    | (go_at_call 8; (with_reducible refine (HCK.out _).mono ?_); rintro e w1 ⟨rfl, hb1⟩; have HD1 := Lib.hid (HD.out.later hb1); clear hb1; obtain ⟨r0, r1, r2, r3, r4⟩ := HD1.out.res.cells5; have f0 := HD1.out.res.frozen 0; have f1 := HD1.out.res.frozen 1; have f2 := HD1.out.res.frozen 2; have f3 := HD1.out.res.frozen 3; have f4 := HD1.out.res.frozen 4)
    | fail "no")
  exact im_end _ _ HD1.out.zero.1 rfl rfl ⟨imRes_zero _ _ 1, HD1.out.zero.2⟩
set_option maxRecDepth 100000 in
set_option maxHeartbeats 6400000 in
theorem dec_size (x : Sh) (gen : Int) (A : Option Addr) (n c T P g : Nat) (w : World) (h : mayB x = true) (hg : Gd x T P g) (hn : n ≠ P) :
    Calls Try.prog 10 #[.agg #[.int .i64 x.m, .int .i64 x.b, .int .i64 x.s, .int .i64 x.t, .int .i64 x.n, .int .i64 x.l], .int .u64 gen, .slice A n c] w fun e w' => ImRes w.heap.size w' e zeroPic 6 ∧ Below w.heap.size w w' := by
  have h1 : chk x = 0 := by unfold chk; rw [if_pos h]
  have HCK := Lib.hid (fun W => h1 ▸ check_ok x W)
  have HG := Lib.hid hg
  have HD := Lib.hid (D0.start w x)
  obtain ⟨s0, s1, s2, s3, s4, s5⟩ := HD.out.sh.cells6
  have hd1 : ((n : Int) != (P : Int)) = true := bne_iff_ne.2 (by omega)
  have hd2 : ((n : Int) == (P : Int)) = false := beq_eq_false_iff_ne.2 (by omega)
  clear h h1 hg
  go_enter Try.func10, Try.ntmps10
  go_wp2_with (first
    | (go_at_call 8; (with_reducible refine (HCK.out _).mono ?_); rintro e w1 ⟨rfl, hb1⟩; have HD1 := Lib.hid (HD.out.later hb1); clear hb1; obtain ⟨t0, t1, t2, t3, t4, t5⟩ := HD1.out.sh.cells6)
    | (go_at_call 26; (with_reducible refine (HG.out.pages _).mono ?_); rintro e w2 ⟨rfl, hb2⟩; have HD2 := Lib.hid (HD1.out.later hb2); clear hb2; obtain ⟨r0, r1, r2, r3, r4⟩ := HD2.out.res.cells5; have f0 := HD2.out.res.frozen 0; have f1 := HD2.out.res.frozen 1; have f2 := HD2.out.res.frozen 2; have f3 := HD2.out.res.frozen 3; have f4 := HD2.out.res.frozen 4)
    | fail "no")
  exact im_end _ _ HD2.out.zero.1 rfl rfl ⟨imRes_zero _ _ 6, HD2.out.zero.2⟩
end Go.Proofs.Ytcpngnnnggpfpaa
