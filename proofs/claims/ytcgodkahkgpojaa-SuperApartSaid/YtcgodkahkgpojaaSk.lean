/- The walk of the law's tells. No further condition. -/
import Derived.Test.YtcgodkahkgpojaaSd
namespace Go.Proofs.Ytcgodkahkgpojaa
open Go.RowKit
attribute [local go_sem ↓] Go.wp_at_zero Go.wp_at_succ

theorem ownsRow_base {w : World} {b b' : Nat} {e : TypeId} {size n : Nat} {v : Value} {xs : List Value} (k : w.ownsRow b e size v n xs) (h : b' ≤ b) : w.ownsRow b' e size v n xs := by
  refine ⟨k.1, ?_⟩
  rcases k.2 with h1 | ⟨g, cap, cur, e1, hb, r⟩
  · exact .inl h1
  · exact .inr ⟨g, cap, cur, e1, Nat.le_trans h hb, r⟩
theorem le1 {n : Nat} (h : n < 256) : le 1 n = [(n : Int)] := by simp [le, byteAt]; omega
theorem lputIE (size n : Nat) (z m : Int) (hz : z = size) (hm : m = n) (w : World) (h8 : size ≤ 8) (hn : n < 9223372036854775808) :
    Calls Try.prog 23 #[.int .i64 z, .int .i64 m] w fun e w' => ∃ A c, e = .returned (.slice A (le size n).length c) ∧ w'.ownsRow w.heap.size 5 1 (.slice A (le size n).length c) (le size n).length (byv (le size n)) ∧ Rd w' A (byv (le size n)) ∧ Below w.heap.size w w' := by
  subst hz hm
  refine (lputi_ok size n w h8 hn).mono ?_
  rintro e w' ⟨r, rfl, h1, h2⟩
  obtain ⟨A, c, rfl, h3, -, -⟩ := own_formc h1
  exact ⟨A, c, rfl, h1, h3, h2⟩
def t0 : List Int := le 4 827540562
theorem t0_len : t0.length = 4 := by simp [t0, le_len]
def t1 (x : Sh) (k : Int) : List Int := t0 ++ [k, x.m]
theorem t1_len (x : Sh) (k : Int) : (t1 x k).length = 6 := by simp [t1, t0_len]
def t2 (x : Sh) (k : Int) : List Int := t1 x k ++ le 2 x.b.toNat
theorem t2_len (x : Sh) (k : Int) : (t2 x k).length = 8 := by simp [t2, t1_len, le_len]
def t3 (x : Sh) (k : Int) : List Int := t2 x k ++ le 2 x.s.toNat
theorem t3_len (x : Sh) (k : Int) : (t3 x k).length = 10 := by simp [t3, t2_len, le_len]
def t4 (x : Sh) (k : Int) : List Int := t3 x k ++ le 2 x.t.toNat
theorem t4_len (x : Sh) (k : Int) : (t4 x k).length = 12 := by simp [t4, t3_len, le_len]
def t5 (x : Sh) (k : Int) : List Int := t4 x k ++ le 2 x.n.toNat
theorem t5_len (x : Sh) (k : Int) : (t5 x k).length = 14 := by simp [t5, t4_len, le_len]
def t6 (x : Sh) (k : Int) : List Int := t5 x k ++ le 4 x.l.toNat
theorem t6_len (x : Sh) (k : Int) : (t6 x k).length = 18 := by simp [t6, t5_len, le_len]
theorem t6_eq (x : Sh) (k : Int) (hk : 0 ≤ k ∧ k < 256) (hm : 0 ≤ x.m ∧ x.m < 256) : t6 x k = supL x k := by
  have e1 : le 1 k.toNat = [k] := by rw [le1 (by omega)]; congr 1; omega
  have e2 : le 1 x.m.toNat = [x.m] := by rw [le1 (by omega)]; congr 1; omega
  unfold t6 t5 t4 t3 t2 t1 t0 supL
  rw [e1, e2]
  simp only [List.append_assoc, List.cons_append, List.nil_append]
/-- Bytes that are made, beside the label's and the shape's blocks. -/
structure Tt (w0 W : World) (x : Sh) (k : Int) (v : Value) (xs : List Int) : Prop where
  row : W.ownsRow w0.heap.size 5 1 v xs.length (byv xs)
  bel : Below w0.heap.size w0 W
  lab : Blk W w0.heap.size 29 #[.int .i64 x.m, .int .i64 x.b, .int .i64 x.s, .int .i64 x.t, .int .i64 x.n, .int .i64 x.l, .int .i64 k]
  sh : Blk W (w0.heap.size + 1) 26 #[.int .i64 x.m, .int .i64 x.b, .int .i64 x.s, .int .i64 x.t, .int .i64 x.n, .int .i64 x.l]
section
variable {w0 W W' : World} {x : Sh} {k : Int} {v v' : Value} {xs ys : List Int}
theorem Tt.later (h : Tt w0 W x k v xs) (hb : Below W.heap.size W W') : Tt w0 W' x k v xs := ⟨ownsRow_later h.row hb, h.bel.trans (hb.mono h.bel.size), h.lab.later hb, h.sh.later hb⟩
theorem Tt.grow (h : Tt w0 W x k v xs) (hg : W.grownBy W' v.ownBlock) {n m : Nat} (hn : n = xs.length) (hm : m = ys.length) (ho : W'.ownsRow w0.heap.size 5 1 v' (n + m) (byv xs ++ byv ys)) : Tt w0 W' x k v' (xs ++ ys) := by
  subst hn hm
  exact ⟨by rw [List.length_append, byv_app]; exact ho, h.bel.grown hg h.bel.size fun b hb => (h.row.lt b hb).1, h.lab.grown hg (fun e => own_blk_ne h.row h.lab (by decide) e.symm), h.sh.grown hg (fun e => own_blk_ne h.row h.sh (by decide) e.symm)⟩
theorem Tt.form (h : Tt w0 W x k v xs) : ∃ A c, v = .slice A xs.length c := by
  obtain ⟨A, c, e, -, -, -⟩ := own_formc h.row
  exact ⟨A, c, e⟩
theorem Tt.cells (h : Tt w0 W x k v xs) : W.cell? ⟨w0.heap.size, 6, none⟩ = some (.int .i64 k) ∧ W.cell? ⟨w0.heap.size + 1, 0, none⟩ = some (.int .i64 x.m) ∧ W.cell? ⟨w0.heap.size + 1, 1, none⟩ = some (.int .i64 x.b) ∧ W.cell? ⟨w0.heap.size + 1, 2, none⟩ = some (.int .i64 x.s) ∧ W.cell? ⟨w0.heap.size + 1, 3, none⟩ = some (.int .i64 x.t) ∧ W.cell? ⟨w0.heap.size + 1, 4, none⟩ = some (.int .i64 x.n) ∧ W.cell? ⟨w0.heap.size + 1, 5, none⟩ = some (.int .i64 x.l) :=
  ⟨h.lab.at_ rfl, h.sh.at_ rfl, h.sh.at_ rfl, h.sh.at_ rfl, h.sh.at_ rfl, h.sh.at_ rfl, h.sh.at_ rfl⟩
end
set_option maxRecDepth 100000 in
set_option maxHeartbeats 12800000 in
theorem tells_ok (x : Sh) (k : Int) (w : World) (hs : Sm x) (hk : 0 ≤ k ∧ k < 256) (hm : x.m < 256) (hb : x.b ≤ 100000) :
    Calls Try.prog 12 #[.agg #[.int .i64 x.m, .int .i64 x.b, .int .i64 x.s, .int .i64 x.t, .int .i64 x.n, .int .i64 x.l, .int .i64 k]] w fun e w' => (∃ r, e = .returned r ∧ w'.ownsRow w.heap.size 5 1 r (pad (sealL (supL x k)) x.b.toNat).length (byv (pad (sealL (supL x k)) x.b.toNat))) ∧ Below w.heap.size w w' := by
  obtain ⟨i0, hi0, hz0, hz1, hz2⟩ := info_parts (show (Try.prog.info? 5).map (fun i => (i.zero, i.size, i.bytes)) = some (some (.int .u8 0), 1, 1) by kernel_rfl)
  obtain ⟨⟨m0, m1⟩, ⟨b0, b1⟩, ⟨s0, s1⟩, ⟨u0, u1⟩, ⟨n0, n1⟩, l0, l1⟩ := hs
  obtain ⟨k0, k1⟩ := hk
  have e0 : IntKind.u8.wrap k = k := IntWalk.u8_in _ (by omega)
  have e1 : IntKind.u8.wrap x.m = x.m := IntWalk.u8_in _ (by omega)
  have HL0 := Lib.hid ((Blk.new w 29 #[.int .i64 x.m, .int .i64 x.b, .int .i64 x.s, .int .i64 x.t, .int .i64 x.n, .int .i64 x.l, .int .i64 k]).alloc (.cells #[.int .i64 x.m, .int .i64 x.b, .int .i64 x.s, .int .i64 x.t, .int .i64 x.n, .int .i64 x.l] 26))
  have HS0 := Lib.hid (Blk.new_ (w.alloc (.cells #[.int .i64 x.m, .int .i64 x.b, .int .i64 x.s, .int .i64 x.t, .int .i64 x.n, .int .i64 x.l, .int .i64 k] 29)) 26 #[.int .i64 x.m, .int .i64 x.b, .int .i64 x.s, .int .i64 x.t, .int .i64 x.n, .int .i64 x.l] (n := w.heap.size + 1) (by simp))
  have HB0 := Lib.hid (((Below.refl w.heap.size w).alloc (Nat.le_refl _) (.cells #[.int .i64 x.m, .int .i64 x.b, .int .i64 x.s, .int .i64 x.t, .int .i64 x.n, .int .i64 x.l, .int .i64 k] 29)).alloc (by simp) (.cells #[.int .i64 x.m, .int .i64 x.b, .int .i64 x.s, .int .i64 x.t, .int .i64 x.n, .int .i64 x.l] 26))
  go_enter Try.func12, Try.ntmps12
  go_wp2_with (first
    | (go_at_call 23; (with_reducible refine (lputIE 4 827540562 4 827540562 rfl rfl _ (by omega) (by omega)).mono ?_); rintro e wa ⟨Aa, ca, rfl, hoa, -, hba⟩; have hta : Tt w wa x k (.slice Aa t0.length ca) t0 := ⟨ownsRow_base hoa HB0.out.size, HB0.out.trans (hba.mono HB0.out.size), HL0.out.later hba, HS0.out.later hba⟩; have HTa := Lib.hid hta; clear hoa hba hta)
    | fail "no")
  obtain ⟨y0, y1, y2, y3, y4, y5, y6⟩ := HTa.out.cells
  have hal := ((Below.refl wa.heap.size wa).alloc (Nat.le_refl _) (.cells #[.int .u8 k, .int .u8 x.m] 5)).drew
  have HTb := Lib.hid (HTa.out.later hal)
  have HRb : Hid (Rd (wa.alloc (.cells #[.int .u8 k, .int .u8 x.m] 5)).drew (some ⟨wa.heap.size, 0, none⟩) (byv [k, x.m])) := Lib.hid ((Rd.blk_all (xs := byv [k, x.m]) (Blk.new wa 5 #[.int .u8 k, .int .u8 x.m])).later (below_drewN (Below.refl _ _) 1))
  obtain ⟨x0, x1, x2, x3, x4, x5, x6⟩ := HTb.out.cells
  clear hal
  go_region_held3 (fun w' => w'.cell? ⟨w.heap.size, 6, none⟩ = some (.int .i64 k) ∧ w'.cell? ⟨w.heap.size + 1, 0, none⟩ = some (.int .i64 x.m) ∧ w'.cell? ⟨w.heap.size + 1, 1, none⟩ = some (.int .i64 x.b) ∧ w'.cell? ⟨w.heap.size + 1, 2, none⟩ = some (.int .i64 x.s) ∧ w'.cell? ⟨w.heap.size + 1, 3, none⟩ = some (.int .i64 x.t) ∧ w'.cell? ⟨w.heap.size + 1, 4, none⟩ = some (.int .i64 x.n) ∧ w'.cell? ⟨w.heap.size + 1, 5, none⟩ = some (.int .i64 x.l))
    (first | exact ⟨by assumption, by assumption, by assumption, by assumption, by assumption, by assumption, by assumption⟩ | go_keep)
    (first
      | (refine step_append_any _ (by rfl) _ _ 31 (by rfl) w.heap.size 5 i0 (.int .u8 0) 1 1 Try.underlying31 hi0 hz0 hz1 hz2 rfl (by decide) (.slice Aa t0.length ca) t0.length (byv t0) (by rfl) HTb.out.row (some ⟨wa.heap.size, 0, none⟩) 2 2 (byv [k, x.m]) (by rfl) (by simp [byv_len]) HRb.out (byv_one _) (by rw [t0_len]; unfold maxLen; omega) (by rw [t0_len]; simp) HTb.out.bel.size ?_; intro v1 w1 hown1 hg1 hat1; have hHT1 : Tt w w1 x k v1 (t1 x k) := HTb.out.grow hg1 rfl (by simp) hown1; obtain ⟨A1, c1, rfl⟩ := hHT1.form; obtain ⟨z10, z11, z12, z13, z14, z15, z16⟩ := hHT1.cells; have HT1 := Lib.hid hHT1; clear hown1 hg1 hat1 hHT1)
      | (go_at_call 23; (with_reducible refine (lputIE 2 x.b.toNat 2 x.b rfl (by omega) _ (by omega) (by omega)).mono ?_); rintro e w2 ⟨A2, c2, rfl, -, hr2, hb2⟩; have hHT2 := HT1.out.later hb2; obtain ⟨z20, z21, z22, z23, z24, z25, z26⟩ := hHT2.cells; have HT2 := Lib.hid hHT2; have HR2 := Lib.hid hr2; clear hr2 hb2 hHT2)
      | (refine step_append_any _ (by rfl) _ _ 31 (by rfl) w.heap.size 5 i0 (.int .u8 0) 1 1 Try.underlying31 hi0 hz0 hz1 hz2 rfl (by decide) (.slice A1 (t1 x k).length c1) (t1 x k).length (byv (t1 x k)) (by rfl) HT2.out.row A2 (le 2 x.b.toNat).length c2 (byv (le 2 x.b.toNat)) (by rfl) (by simp [byv_len]) HR2.out (byv_one _) (by rw [t1_len]; simp [le_len]; unfold maxLen; omega) (by rw [t1_len]; simp [le_len]) HT2.out.bel.size ?_; intro v3 w3 hown3 hg3 hat3; have hHT3 : Tt w w3 x k v3 (t2 x k) := HT2.out.grow hg3 rfl (by simp) hown3; obtain ⟨A3, c3, rfl⟩ := hHT3.form; obtain ⟨z30, z31, z32, z33, z34, z35, z36⟩ := hHT3.cells; have HT3 := Lib.hid hHT3; clear hown3 hg3 hat3 hHT3)
      | fail "no arm")
  clear y0 x0 z10 z20 y1 x1 z11 z21 y2 x2 z12 z22 y3 x3 z13 z23 y4 x4 z14 z24 y5 x5 z15 z25 y6 x6 z16 z26 HTa HTb HT1 HT2 HRb HR2
  go_wp2
  go_region_held3 (fun w' => w'.cell? ⟨w.heap.size, 6, none⟩ = some (.int .i64 k) ∧ w'.cell? ⟨w.heap.size + 1, 0, none⟩ = some (.int .i64 x.m) ∧ w'.cell? ⟨w.heap.size + 1, 1, none⟩ = some (.int .i64 x.b) ∧ w'.cell? ⟨w.heap.size + 1, 2, none⟩ = some (.int .i64 x.s) ∧ w'.cell? ⟨w.heap.size + 1, 3, none⟩ = some (.int .i64 x.t) ∧ w'.cell? ⟨w.heap.size + 1, 4, none⟩ = some (.int .i64 x.n) ∧ w'.cell? ⟨w.heap.size + 1, 5, none⟩ = some (.int .i64 x.l))
    (first | exact ⟨by assumption, by assumption, by assumption, by assumption, by assumption, by assumption, by assumption⟩ | go_keep)
    (first
      | (go_at_call 23; (with_reducible refine (lputIE 2 x.s.toNat 2 x.s rfl (by omega) _ (by omega) (by omega)).mono ?_); rintro e w4 ⟨A4, c4, rfl, -, hr4, hb4⟩; have hHT4 := (HT3.out.later (Below.refl _ _).drew).later hb4; obtain ⟨z40, z41, z42, z43, z44, z45, z46⟩ := hHT4.cells; have HT4 := Lib.hid hHT4; have HR4 := Lib.hid hr4; clear hr4 hb4 hHT4)
      | (refine step_append_any _ (by rfl) _ _ 31 (by rfl) w.heap.size 5 i0 (.int .u8 0) 1 1 Try.underlying31 hi0 hz0 hz1 hz2 rfl (by decide) (.slice A3 (t2 x k).length c3) (t2 x k).length (byv (t2 x k)) (by rfl) HT4.out.row A4 (le 2 x.s.toNat).length c4 (byv (le 2 x.s.toNat)) (by rfl) (by simp [byv_len]) HR4.out (byv_one _) (by rw [t2_len]; simp [le_len]; unfold maxLen; omega) (by rw [t2_len]; simp [le_len]) HT4.out.bel.size ?_; intro v5 w5 hown5 hg5 hat5; have hHT5 : Tt w w5 x k v5 (t3 x k) := HT4.out.grow hg5 rfl (by simp) hown5; obtain ⟨A5, c5, rfl⟩ := hHT5.form; obtain ⟨z50, z51, z52, z53, z54, z55, z56⟩ := hHT5.cells; have HT5 := Lib.hid hHT5; clear hown5 hg5 hat5 hHT5)
      | (go_at_call 23; (with_reducible refine (lputIE 2 x.t.toNat 2 x.t rfl (by omega) _ (by omega) (by omega)).mono ?_); rintro e w6 ⟨A6, c6, rfl, -, hr6, hb6⟩; have hHT6 := HT5.out.later hb6; obtain ⟨z60, z61, z62, z63, z64, z65, z66⟩ := hHT6.cells; have HT6 := Lib.hid hHT6; have HR6 := Lib.hid hr6; clear hr6 hb6 hHT6)
      | (refine step_append_any _ (by rfl) _ _ 31 (by rfl) w.heap.size 5 i0 (.int .u8 0) 1 1 Try.underlying31 hi0 hz0 hz1 hz2 rfl (by decide) (.slice A5 (t3 x k).length c5) (t3 x k).length (byv (t3 x k)) (by rfl) HT6.out.row A6 (le 2 x.t.toNat).length c6 (byv (le 2 x.t.toNat)) (by rfl) (by simp [byv_len]) HR6.out (byv_one _) (by rw [t3_len]; simp [le_len]; unfold maxLen; omega) (by rw [t3_len]; simp [le_len]) HT6.out.bel.size ?_; intro v7 w7 hown7 hg7 hat7; have hHT7 : Tt w w7 x k v7 (t4 x k) := HT6.out.grow hg7 rfl (by simp) hown7; obtain ⟨A7, c7, rfl⟩ := hHT7.form; obtain ⟨z70, z71, z72, z73, z74, z75, z76⟩ := hHT7.cells; have HT7 := Lib.hid hHT7; clear hown7 hg7 hat7 hHT7)
      | fail "no arm")
  clear z30 z40 z50 z60 z31 z41 z51 z61 z32 z42 z52 z62 z33 z43 z53 z63 z34 z44 z54 z64 z35 z45 z55 z65 z36 z46 z56 z66 HT3 HT4 HT5 HT6 HR4 HR6
  go_wp2
  have h6o : Oct (t6 x k) := by rw [t6_eq x k ⟨k0, k1⟩ ⟨m0, hm⟩]; exact supL_oct x k
  have H6O := Lib.hid h6o
  clear h6o
  go_region_held3 (fun w' => w'.cell? ⟨w.heap.size, 6, none⟩ = some (.int .i64 k) ∧ w'.cell? ⟨w.heap.size + 1, 0, none⟩ = some (.int .i64 x.m) ∧ w'.cell? ⟨w.heap.size + 1, 1, none⟩ = some (.int .i64 x.b) ∧ w'.cell? ⟨w.heap.size + 1, 2, none⟩ = some (.int .i64 x.s) ∧ w'.cell? ⟨w.heap.size + 1, 3, none⟩ = some (.int .i64 x.t) ∧ w'.cell? ⟨w.heap.size + 1, 4, none⟩ = some (.int .i64 x.n) ∧ w'.cell? ⟨w.heap.size + 1, 5, none⟩ = some (.int .i64 x.l))
    (first | exact ⟨by assumption, by assumption, by assumption, by assumption, by assumption, by assumption, by assumption⟩ | go_keep)
    (first
      | (go_at_call 23; (with_reducible refine (lputIE 2 x.n.toNat 2 x.n rfl (by omega) _ (by omega) (by omega)).mono ?_); rintro e w8 ⟨A8, c8, rfl, -, hr8, hb8⟩; have hHT8 := (HT7.out.later (Below.refl _ _).drew).later hb8; obtain ⟨z80, z81, z82, z83, z84, z85, z86⟩ := hHT8.cells; have HT8 := Lib.hid hHT8; have HR8 := Lib.hid hr8; clear hr8 hb8 hHT8)
      | (refine step_append_any _ (by rfl) _ _ 31 (by rfl) w.heap.size 5 i0 (.int .u8 0) 1 1 Try.underlying31 hi0 hz0 hz1 hz2 rfl (by decide) (.slice A7 (t4 x k).length c7) (t4 x k).length (byv (t4 x k)) (by rfl) HT8.out.row A8 (le 2 x.n.toNat).length c8 (byv (le 2 x.n.toNat)) (by rfl) (by simp [byv_len]) HR8.out (byv_one _) (by rw [t4_len]; simp [le_len]; unfold maxLen; omega) (by rw [t4_len]; simp [le_len]) HT8.out.bel.size ?_; intro v9 w9 hown9 hg9 hat9; have hHT9 : Tt w w9 x k v9 (t5 x k) := HT8.out.grow hg9 rfl (by simp) hown9; obtain ⟨A9, c9, rfl⟩ := hHT9.form; obtain ⟨z90, z91, z92, z93, z94, z95, z96⟩ := hHT9.cells; have HT9 := Lib.hid hHT9; clear hown9 hg9 hat9 hHT9)
      | (go_at_call 23; (with_reducible refine (lputIE 4 x.l.toNat 4 x.l rfl (by omega) _ (by omega) (by omega)).mono ?_); rintro e w10 ⟨A10, c10, rfl, -, hr10, hb10⟩; have hHTA := HT9.out.later hb10; obtain ⟨z100, z101, z102, z103, z104, z105, z106⟩ := hHTA.cells; have HTA := Lib.hid hHTA; have HR10 := Lib.hid hr10; clear hr10 hb10 hHTA)
      | (refine step_append_any _ (by rfl) _ _ 31 (by rfl) w.heap.size 5 i0 (.int .u8 0) 1 1 Try.underlying31 hi0 hz0 hz1 hz2 rfl (by decide) (.slice A9 (t5 x k).length c9) (t5 x k).length (byv (t5 x k)) (by rfl) HTA.out.row A10 (le 4 x.l.toNat).length c10 (byv (le 4 x.l.toNat)) (by rfl) (by simp [byv_len]) HR10.out (byv_one _) (by rw [t5_len]; simp [le_len]; unfold maxLen; omega) (by rw [t5_len]; simp [le_len]) HTA.out.bel.size ?_; intro v11 w11 hown11 hg11 hat11; have hHTB : Tt w w11 x k v11 (t6 x k) := HTA.out.grow hg11 rfl (by simp) hown11; obtain ⟨A11, c11, rfl⟩ := hHTB.form; obtain ⟨z110, z111, z112, z113, z114, z115, z116⟩ := hHTB.cells; have HTB := Lib.hid hHTB; clear hown11 hg11 hat11 hHTB)
      | (go_at_call 13; (with_reducible refine (sealed_ok A11 c11 (t6 x k) _ (Rd.of_own HTB.out.row) (by rw [t6_len]; omega) H6O.out).mono ?_); rintro e w12 ⟨r12, rfl, hown12, hb12⟩; have hTC := HTB.out.later hb12; obtain ⟨z120, z121, z122, z123, z124, z125, z126⟩ := hTC.cells; have HTC : Hid (Tt w w12 x k r12 (sealL (t6 x k))) := Lib.hid ⟨ownsRow_base hown12 HTB.out.bel.size, hTC.bel, hTC.lab, hTC.sh⟩; obtain ⟨A12, c12, rfl⟩ := HTC.out.form; clear hown12 hb12 hTC)
      | fail "no arm")
  have hlx : (sealL (t6 x k)).length = 22 := by rw [sealL_len, t6_len]
  have hxe : t6 x k = supL x k := t6_eq x k ⟨k0, k1⟩ ⟨m0, hm⟩
  obtain ⟨xs, hxs⟩ : ∃ xs, xs = sealL (t6 x k) := ⟨_, rfl⟩
  rw [← hxs] at HTC hlx ⊢
  rw [hxe] at hxs
  have HXS := Lib.hid hxs
  have HLX := Lib.hid hlx
  obtain ⟨m, hmm⟩ : ∃ m, m = x.b.toNat - xs.length := ⟨_, rfl⟩
  have HM := Lib.hid hmm
  have hx22 : xs.length ≤ 22 := by omega
  clear HTB HTA HT9 HT8 HT7 HR8 HR10 H6O hxe hlx hxs hmm e0 e1 HL0 HS0 HB0
  go_wp2
  go_loopw [4] (fun r wr => ∃ (j : Nat) (A' : Option Addr) (c' : Nat), j ≤ m ∧ r = .slice A' (xs.length + j) c' ∧ Tt w wr x k r (xs ++ List.replicate j 0)) (fun r _ => x.b.toNat - (match r with | .slice _ n _ => n | _ => 0))
  case atStart => exact ⟨0, A12, c12, by omega, rfl, by simpa using HTC.out⟩
  case round =>
    clear HTC
    obtain ⟨j, A7, c7, hj, rfl, hT⟩ := hrel
    obtain ⟨z0, z1, z2, z3, z4, z5, z6⟩ := hT.cells
    have hm1 := HM.out
    have HT := Lib.hid hT
    have hlj : (xs ++ List.replicate j 0).length = xs.length + j := by simp
    have HLJ := Lib.hid hlj
    clear hT hlj
    by_cases hlt : xs.length + j < x.b.toNat
    · have hlt2 : (xs.length : Int) + j < x.b := by omega
      have hj2 : j + 1 ≤ m := by omega
      have hro : (wr.alloc (.cells #[.int .u8 0] 5)).ownsRow w.heap.size 5 1 (.slice A7 (xs.length + j) c7) (xs.length + j) (byv (xs ++ List.replicate j 0)) := by have := HT.out.row; rw [HLJ.out] at this; exact this.alloc _
      have HO := Lib.hid hro
      have HB := Lib.hid (HT.out.later ((Below.refl wr.heap.size wr).alloc (Nat.le_refl _) (.cells #[.int .u8 0] 5)))
      clear hm1 hro
      go_wp2_with (first | (at_builtin; refine wpList_append_any _ rfl _ _ 31 rfl w.heap.size 5 i0 (.int .u8 0) 1 1 Try.underlying31 hi0 hz0 hz1 hz2 rfl (by decide) _ (xs.length + j) (byv (xs ++ List.replicate j 0)) rfl HO.out (some ⟨wr.heap.size, 0, none⟩) 1 1 [.int .u8 0] rfl rfl (Rd.one _ _ _ rfl) (by intro u hu; simp at hu; subst hu; rfl) (by unfold maxLen; omega) (by omega) HB.out.bel.size ?_; intro v2 w2 hown2 hg2 hat2; have HP := Lib.hid (HB.out.grow (ys := [0]) hg2 HLJ.out.symm rfl hown2); obtain ⟨A2, c2, rfl, -, -⟩ := own_form hown2) | fail "no")
      go_roundw
      case rel =>
        refine ⟨j + 1, A2, c2, hj2, rfl, ?_⟩
        rw [List.replicate_succ', ← List.append_assoc]
        exact HP.out
      case measure => simp; omega
    · obtain rfl : j = m := by omega
      have hlt2 : x.b ≤ (xs.length : Int) + j := by omega
      have e : pad xs x.b.toNat = xs ++ List.replicate j 0 := by rw [pad, ← hm1]
      have HE := Lib.hid e
      clear hm1 e
      go_wp2
      go_ret
      rw [← HXS.out, HE.out]
      exact ⟨⟨_, rfl, by have := HT.out.row; rw [HLJ.out] at this ⊢; exact this⟩, HT.out.bel⟩
end Go.Proofs.Ytcgodkahkgpojaa
