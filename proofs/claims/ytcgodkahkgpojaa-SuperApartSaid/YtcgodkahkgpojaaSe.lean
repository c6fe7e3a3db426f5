/- Labels as values; the walk of super.Encode. No further condition. -/
import Derived.Test.YtcgodkahkgpojaaEc
import Derived.Test.YtcgodkahkgpojaaSs
namespace Go.Proofs.Ytcgodkahkgpojaa
open Go.RowKit
attribute [local go_sem ↓] Go.wp_at_zero Go.wp_at_succ

/-- A label's numbers, in bytes. -/
def supL (x : Sh) (k : Int) : List Int := le 4 827540562 ++ le 1 k.toNat ++ le 1 x.m.toNat ++ le 2 x.b.toNat ++ le 2 x.s.toNat ++ le 2 x.t.toNat ++ le 2 x.n.toNat ++ le 4 x.l.toNat
theorem supL_len (x : Sh) (k : Int) : (supL x k).length = 18 := by simp [supL, le_len]
theorem supL_oct (x : Sh) (k : Int) : Oct (supL x k) := (((((((le_oct _ _).app (le_oct _ _)).app (le_oct _ _)).app (le_oct _ _)).app (le_oct _ _)).app (le_oct _ _)).app (le_oct _ _)).app (le_oct _ _)
def lbv (x : Sh) (k : Int) : Array Value := #[.int .i64 x.m, .int .i64 x.b, .int .i64 x.s, .int .i64 x.t, .int .i64 x.n, .int .i64 x.l, .int .i64 k]
def Es (w W : World) (x : Sh) (k : Int) (v : Value) (xs : List Int) : Prop := Ec (w.alloc (.cells (lbv x k) 29)) W 26 (shv x) v xs
section
variable {w W W' : World} {x : Sh} {k : Int} {v v' : Value} {xs ys : List Int}
theorem alloc_sz (w : World) (o : Obj) : (w.alloc o).heap.size = w.heap.size + 1 := by simp
theorem Es.later (h : Es w W x k v xs) (hb : Below W.heap.size W W') : Es w W' x k v xs := Ec.later h hb
theorem Es.dr (h : Es w W x k v xs) : Es w W.drew x k v xs := Ec.dr h
theorem Es.bel (h : Es w W x k v xs) : Below w.heap.size w W := ((Below.refl _ w).alloc (Nat.le_refl _) _).trans ((Ec.bel h).mono (by simp))
theorem Es.big (h : Es w W x k v xs) : w.heap.size + 1 + 1 + 1 ≤ W.heap.size := by
  have := Ec.big h
  rw [alloc_sz] at this
  exact this
theorem Es.wr (h : Es w W x k v xs) : Wr W (w.heap.size + 1 + 1 + 1) (w.heap.size + 1 + 1) v xs := by
  have := Ec.wr h
  rw [alloc_sz] at this
  exact this
theorem Es.cells (h : Es w W x k v xs) : W.cell? ⟨w.heap.size, 6, none⟩ = some (.int .i64 k) ∧ W.cell? ⟨w.heap.size + 1, 0, none⟩ = some (.int .i64 x.m) ∧ W.cell? ⟨w.heap.size + 1, 1, none⟩ = some (.int .i64 x.b) ∧ W.cell? ⟨w.heap.size + 1, 2, none⟩ = some (.int .i64 x.s) ∧ W.cell? ⟨w.heap.size + 1, 3, none⟩ = some (.int .i64 x.t) ∧ W.cell? ⟨w.heap.size + 1, 4, none⟩ = some (.int .i64 x.n) ∧ W.cell? ⟨w.heap.size + 1, 5, none⟩ = some (.int .i64 x.l) := by
  have hb := Ec.box h
  rw [alloc_sz] at hb
  have hl : Blk W w.heap.size 29 (lbv x k) := (Blk.new w 29 (lbv x k)).later (Ec.bel h)
  exact ⟨hl.at_ rfl, hb.at_ rfl, hb.at_ rfl, hb.at_ rfl, hb.at_ rfl, hb.at_ rfl, hb.at_ rfl⟩
theorem putS (h : Es w W x k v xs) (size n : Nat) (z m : Int) (hz : z = size) (hm : m = n) (h1 : 1 ≤ size) (h8 : size ≤ 8) (hn : n < 18446744073709551616) (hx : xs.length ≤ 1000000) :
    Calls Try.prog 15 #[.pointer (some ⟨w.heap.size + 1 + 1, 0, none⟩), .int .i64 z, .int .u64 m] W fun e w' => e = .returned (.pointer (some ⟨w.heap.size + 1 + 1, 0, none⟩)) ∧ ∃ v', Es w w' x k v' (xs ++ le size n) := by
  have := putE h size n z m hz hm h1 h8 hn hx
  rw [alloc_sz] at this
  refine this.mono ?_
  rintro e w' ⟨rfl, v', -, h2⟩
  exact ⟨rfl, v', h2⟩
theorem Es.reset (h : Es w W x k v xs) : Es w (W.setCell ⟨w.heap.size + 1 + 1, 0, none⟩ (.slice none 0 0)) x k (.slice none 0 0) [] := by
  have := Ec.reset h
  rw [alloc_sz] at this
  exact this
theorem Es.put (h : Es w W x k v xs) (hw : WrTo W W' (w.heap.size + 1 + 1 + 1) (w.heap.size + 1 + 1) v v' ys) : Es w W' x k v' ys := Ec.put h (by rw [alloc_sz]; exact hw)
theorem Es.rd_reset (h : Es w W x k v xs) {A : Option Addr} {zs : List Value} (hr : Rd W A zs) {B : Nat} (hB : w.heap.size + 1 + 1 + 1 ≤ B) (hA : ∀ ad, A = some ad → B ≤ ad.block) : Rd (W.setCell ⟨w.heap.size + 1 + 1, 0, none⟩ (.slice none 0 0)) A zs := by
  have := Ec.rd_reset h hr (B := B) (by rw [alloc_sz]; omega) hA
  rw [alloc_sz] at this
  exact this
end
set_option maxRecDepth 100000 in
set_option maxHeartbeats 12800000 in
theorem encode_ok (x : Sh) (k : Int) (w : World) (hs : Sm x) (hk : 0 ≤ k ∧ k < 4294967296) (hb : x.b ≤ 100000) :
    Calls Try.prog 10 #[.agg #[.int .i64 x.m, .int .i64 x.b, .int .i64 x.s, .int .i64 x.t, .int .i64 x.n, .int .i64 x.l, .int .i64 k]] w fun e w' => Sl w' e (pad (sealL (supL x k)) x.b.toNat) ∧ Below w.heap.size w w' := by
  have hE0 : Es w (((w.alloc (.cells (lbv x k) 29)).alloc (.cells (shv x) 26)).alloc (.cells #[.slice none 0 0] 42)) x k (.slice none 0 0) [] :=
    ⟨⟨Blk.new_ _ _ _ (by simp), World.ownsRow_nil _ _ _ _⟩, (Blk.new (w.alloc (.cells (lbv x k) 29)) 26 _).alloc _, ((Below.refl _ _).alloc (Nat.le_refl _) _).alloc (by simp) _⟩
  unfold lbv shv at hE0
  have HE0 := Lib.hid hE0
  obtain ⟨z0, z1, z2, z3, z4, z5, z6⟩ := hE0.cells
  obtain ⟨⟨m0, m1⟩, ⟨b0, b1⟩, ⟨s0, s1⟩, ⟨t0, t1⟩, ⟨n0, n1⟩, l0, l1⟩ := hs
  obtain ⟨k0, k1⟩ := hk
  have e0 : IntKind.u64.wrap k = k := IntWalk.u64_in _ (by omega)
  have e1 : IntKind.u64.wrap x.m = x.m := IntWalk.u64_in _ (by omega)
  have e2 : IntKind.u64.wrap x.b = x.b := IntWalk.u64_in _ (by omega)
  have e3 : IntKind.u64.wrap x.s = x.s := IntWalk.u64_in _ (by omega)
  have e4 : IntKind.u64.wrap x.t = x.t := IntWalk.u64_in _ (by omega)
  have e5 : IntKind.u64.wrap x.n = x.n := IntWalk.u64_in _ (by omega)
  have e6 : IntKind.u64.wrap x.l = x.l := IntWalk.u64_in _ (by omega)
  clear hE0
  go_enter Try.func10, Try.ntmps10
  go_wp2
  generalize ((w.alloc (.cells #[.int .i64 x.m, .int .i64 x.b, .int .i64 x.s, .int .i64 x.t, .int .i64 x.n, .int .i64 x.l, .int .i64 k] 29)).alloc (.cells #[.int .i64 x.m, .int .i64 x.b, .int .i64 x.s, .int .i64 x.t, .int .i64 x.n, .int .i64 x.l] 26)).alloc (.cells #[.slice none 0 0] 42) = W0 at HE0 z0 z1 z2 z3 z4 z5 z6 ⊢
  go_region_held3 (fun w' => w'.cell? ⟨w.heap.size, 6, none⟩ = some (.int .i64 k) ∧ w'.cell? ⟨w.heap.size + 1, 0, none⟩ = some (.int .i64 x.m) ∧ w'.cell? ⟨w.heap.size + 1, 1, none⟩ = some (.int .i64 x.b) ∧ w'.cell? ⟨w.heap.size + 1, 2, none⟩ = some (.int .i64 x.s) ∧ w'.cell? ⟨w.heap.size + 1, 3, none⟩ = some (.int .i64 x.t) ∧ w'.cell? ⟨w.heap.size + 1, 4, none⟩ = some (.int .i64 x.n) ∧ w'.cell? ⟨w.heap.size + 1, 5, none⟩ = some (.int .i64 x.l))
    (exact ⟨by assumption, by assumption, by assumption, by assumption, by assumption, by assumption, by assumption⟩)
    (first
      | (go_at_call 15; (with_reducible refine (putS HE0.out.dr 4 827540562 4 827540562 rfl rfl (by omega) (by omega) (by omega) (by simp)).mono ?_); rintro e wa ⟨rfl, va, hE1⟩; have HE1 := Lib.hid hE1; clear hE1; obtain ⟨za0, za1, za2, za3, za4, za5, za6⟩ := HE1.out.cells)
      | (go_at_call 15; (with_reducible refine (putS HE1.out 1 k.toNat 1 k rfl (by omega) (by omega) (by omega) (by omega) (by simp [le_len])).mono ?_); rintro e wb ⟨rfl, vb, hE2⟩; have HE2 := Lib.hid hE2; clear hE2; obtain ⟨zb0, zb1, zb2, zb3, zb4, zb5, zb6⟩ := HE2.out.cells)
      | (go_at_call 15; (with_reducible refine (putS HE2.out 1 x.m.toNat 1 x.m rfl (by omega) (by omega) (by omega) (by omega) (by simp [le_len])).mono ?_); rintro e wc ⟨rfl, vc, hE3⟩; have HE3 := Lib.hid hE3; clear hE3; obtain ⟨zc0, zc1, zc2, zc3, zc4, zc5, zc6⟩ := HE3.out.cells)
      | (go_at_call 15; (with_reducible refine (putS HE3.out 2 x.b.toNat 2 x.b rfl (by omega) (by omega) (by omega) (by omega) (by simp [le_len])).mono ?_); rintro e wd ⟨rfl, vd, hE4⟩; have HE4 := Lib.hid hE4; clear hE4; obtain ⟨zd0, zd1, zd2, zd3, zd4, zd5, zd6⟩ := HE4.out.cells)
      | (go_at_call 15; (with_reducible refine (putS HE4.out 2 x.s.toNat 2 x.s rfl (by omega) (by omega) (by omega) (by omega) (by simp [le_len])).mono ?_); rintro e we ⟨rfl, ve, hE5⟩; have HE5 := Lib.hid hE5; clear hE5; obtain ⟨ze0, ze1, ze2, ze3, ze4, ze5, ze6⟩ := HE5.out.cells)
      | (go_at_call 15; (with_reducible refine (putS HE5.out 2 x.t.toNat 2 x.t rfl (by omega) (by omega) (by omega) (by omega) (by simp [le_len])).mono ?_); rintro e wf ⟨rfl, vf, hE6⟩; have HE6 := Lib.hid hE6; clear hE6; obtain ⟨zf0, zf1, zf2, zf3, zf4, zf5, zf6⟩ := HE6.out.cells)
      | (go_at_call 15; (with_reducible refine (putS HE6.out 2 x.n.toNat 2 x.n rfl (by omega) (by omega) (by omega) (by omega) (by simp [le_len])).mono ?_); rintro e wg ⟨rfl, vg, hE7⟩; have HE7 := Lib.hid hE7; clear hE7; obtain ⟨zg0, zg1, zg2, zg3, zg4, zg5, zg6⟩ := HE7.out.cells)
      | (go_at_call 15; (with_reducible refine (putS HE7.out 4 x.l.toNat 4 x.l rfl (by omega) (by omega) (by omega) (by omega) (by simp [le_len])).mono ?_); rintro e wh ⟨rfl, vh, hE8⟩; have HE8 := Lib.hid hE8; clear hE8; obtain ⟨zh0, zh1, zh2, zh3, zh4, zh5, zh6⟩ := HE8.out.cells)
      | fail "no arm")
  have HE : Hid (Es w wh x k vh (supL x k)) := Lib.hid (by have := HE8.out; rw [List.nil_append] at this; exact this)
  have HLN := Lib.hid (supL_len x k)
  have HO := Lib.hid (supL_oct x k)
  obtain ⟨nl, hnl⟩ : ∃ nl, nl = supL x k := ⟨_, rfl⟩
  rw [← hnl] at HE HLN HO
  have HNL := Lib.hid hnl
  clear hnl z0 z1 z2 z3 z4 z5 z6 za0 za1 za2 za3 za4 za5 za6 zb0 zb1 zb2 zb3 zb4 zb5 zb6 zc0 zc1 zc2 zc3 zc4 zc5 zc6 zd0 zd1 zd2 zd3 zd4 zd5 zd6 ze0 ze1 ze2 ze3 ze4 ze5 ze6 zf0 zf1 zf2 zf3 zf4 zf5 zf6 zg0 zg1 zg2 zg3 zg4 zg5 zg6 zh0 zh1 zh2 zh3 zh4 zh5 zh6 HE0 HE1 HE2 HE3 HE4 HE5 HE6 HE7 HE8
  go_wp2_with (first
    | (go_at_call 17; (with_reducible refine (bytes_ok (w.heap.size + 1 + 1 + 1) (w.heap.size + 1 + 1) vh nl 0 _ HE.out.wr (by rw [HLN.out]; omega) (by decide)).mono ?_); rintro e w5 ⟨r5, rfl, hown5, hB5⟩; have HE5 := Lib.hid (HE.out.later hB5); have hrd5 := own_formc hown5; rw [Int.toNat_zero, pad_long (Nat.zero_le _)] at hrd5; obtain ⟨A5, c5, rfl, hr5, -, -⟩ := hrd5; have HR5 := Lib.hid hr5; clear hown5 hB5 hr5)
    | (go_at_call 16; (with_reducible refine (seal_ok A5 c5 nl _ HR5.out (by rw [HLN.out]; omega) HO.out).mono ?_); rintro e w6 ⟨r6, rfl, hown6, hB6⟩; have HE6 := Lib.hid (HE5.out.later hB6); obtain ⟨A6, c6, rfl, hr6, -, hf6⟩ := own_formc hown6; have HF6 := Lib.hid hf6; clear hf6; have HR6 := Lib.hid hr6; clear hown6 hB6 hr6; have q6 := HE6.out.wr.own.cells1; have f6 := HE6.out.wr.own.frozen 0; have hwr6 := HE6.out.reset; have hrr6 := HE6.out.rd_reset HR6.out HE5.out.big HF6.out; have HWR := Lib.hid hwr6; have HRR := Lib.hid hrr6; clear hwr6 hrr6)
    | fail "no")
  obtain ⟨W6, hW6⟩ : ∃ W6, W6 = w6.setCell ⟨w.heap.size + 1 + 1, 0, none⟩ (.slice none 0 0) := ⟨_, rfl⟩
  rw [← hW6] at HWR HRR ⊢
  obtain ⟨z0, z1, z2, z3, z4, z5, z6⟩ := HWR.out.cells
  clear hW6 q6 f6
  go_region_held3 (fun w' => w'.cell? ⟨w.heap.size + 1, 1, none⟩ = some (.int .i64 x.b))
    (first | assumption | go_keep)
    (first
      | (go_at_call 18; (with_reducible refine (wraw_ok (w.heap.size + 1 + 1 + 1) (w.heap.size + 1 + 1) (.slice none 0 0) [] (sealL nl) A6 c6 _ HWR.out.dr.wr (HRR.out.later (Below.refl _ _).drew) (by simp) (by rw [sealL_len, HLN.out]; omega) HWR.out.dr.big).mono ?_); rintro e w7 ⟨rfl, v7, hW7⟩; have hE7 := HWR.out.dr.put hW7; rw [List.nil_append] at hE7; have HE7 := Lib.hid hE7; clear hW7 hE7; obtain ⟨za0, za1, za2, za3, za4, za5, za6⟩ := HE7.out.cells)
      | (go_at_call 17; (with_reducible refine (bytes_ok (w.heap.size + 1 + 1 + 1) (w.heap.size + 1 + 1) v7 (sealL nl) x.b _ HE7.out.wr (by rw [sealL_len, HLN.out]; omega) (by omega)).mono ?_); rintro e w8 ⟨r8, rfl, hown8, hB8⟩; have HE8 := Lib.hid (HE7.out.later hB8); obtain ⟨A8, c8, rfl, hr8, hc8, -⟩ := own_formc hown8; obtain ⟨zb0, zb1, zb2, zb3, zb4, zb5, zb6⟩ := HE8.out.cells)
      | fail "no arm")
  go_wp2
  go_ret
  rw [← HNL.out]
  exact ⟨⟨A8, c8, rfl, hr8, hc8⟩, HE8.out.bel⟩
end Go.Proofs.Ytcgodkahkgpojaa
