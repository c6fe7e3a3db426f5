/- The walk of GeomTurns. No further condition. -/
import Derived.Test.YtidakgfblehipaaGe
import Derived.Deep.RegionLaw
namespace Go.Proofs.Ytidakgfblehipaa
open Go.RowKit
attribute [local go_sem ↓] Go.wp_at_zero Go.wp_at_succ

def bump (l : List Nat) (j : Nat) : List Nat := l.set j (l.getD j 0 + 1)
/-- So often each one came, among so many, from one on. -/
def bumps (m r : Nat) : Nat → List Nat
  | 0 => List.replicate m 0
  | i + 1 => bump (bumps m r i) ((r + i) % m)
theorem bumps_len (m r i : Nat) : (bumps m r i).length = m := by
  induction i with
  | zero => simp [bumps]
  | succ i ih => simp [bumps, bump, ih]
theorem bumps_all {m r : Nat} (hm : m = 3 ∨ m = 4 ∨ m = 5) (hr : r < m) : bumps m r m = List.replicate m 1 := by
  have g : (List.range 6).all (fun m => (List.range m).all fun r => m < 3 || bumps m r m == List.replicate m 1) = true := by decide +kernel
  rw [List.all_eq_true] at g
  have g1 := g m (by rw [List.mem_range]; omega)
  rw [List.all_eq_true] at g1
  have g2 := g1 r (by rw [List.mem_range]; exact hr)
  rcases hm with rfl | rfl | rfl <;> simpa using g2
theorem bumps_le (m r i j : Nat) : (bumps m r i).getD j 0 ≤ i := by
  induction i generalizing j with
  | zero =>
    simp only [bumps]
    rw [List.getD_eq_getElem?_getD, List.getElem?_replicate]
    split <;> simp
  | succ i ih =>
    simp only [bumps, bump]
    rw [List.getD_eq_getElem?_getD, List.getElem?_set]
    split
    · split
      · simp only [Option.getD_some]
        have := ih ((r + i) % m)
        omega
      · simp
    · have := ih j
      rw [List.getD_eq_getElem?_getD] at this
      omega
def cnv (l : List Nat) : Array Value := (l.map fun (n : Nat) => Value.int .i64 n).toArray
theorem cnv_at {l : List Nat} {j : Nat} (h : j < l.length) : (cnv l)[j]? = some (.int .i64 (l.getD j 0 : Nat)) := by
  simp [cnv, List.getD_eq_getElem?_getD, h]
theorem cnv_bump (l : List Nat) (j : Nat) : (cnv l).setIfInBounds j (.int .i64 ((l.getD j 0 + 1 : Nat) : Int)) = cnv (bump l j) := by
  simp [cnv, bump, List.map_set]
/-- The shape's block, the counts' blocks. -/
structure Gt (w0 W : World) (S P F m : Nat) (x : Sh) (pl fl : List Nat) : Prop where
  sh : Blk W S 23 #[.int .i64 (m : Int), .int .i64 x.b, .int .i64 x.s, .int .i64 x.t, .int .i64 x.n, .int .i64 x.l]
  p : Blk W P 3 (cnv pl)
  f : Blk W F 3 (cnv fl)
  ne : P ≠ F
  bel : Below w0.heap.size w0 W
  far : w0.heap.size ≤ P ∧ w0.heap.size ≤ F
section
variable {w0 W W' : World} {S P F m : Nat} {x : Sh} {pl fl : List Nat}
theorem Gt.later (k : Gt w0 W S P F m x pl fl) (h : Below W.heap.size W W') : Gt w0 W' S P F m x pl fl := ⟨k.sh.later h, k.p.later h, k.f.later h, k.ne, k.bel.trans (h.mono k.bel.size), k.far⟩
theorem Gt.dr (k : Gt w0 W S P F m x pl fl) : Gt w0 W.drew S P F m x pl fl := k.later (Below.refl _ _).drew
theorem Gt.setp (k : Gt w0 W S P F m x pl fl) (j : Nat) : Gt w0 (W.setCell ⟨P, j, none⟩ (.int .i64 ((pl.getD j 0 + 1 : Nat) : Int))) S P F m x (bump pl j) fl := by
  have h9 := k.p.set_ j (.int .i64 ((pl.getD j 0 + 1 : Nat) : Int))
  rw [cnv_bump] at h9
  exact ⟨k.sh.far (p := ⟨P, j, none⟩) (Blk.ne_ k.sh k.p (by decide)) _, h9, k.f.far (p := ⟨P, j, none⟩) (fun e => k.ne e.symm) _, k.ne, k.bel.setCell (p := ⟨P, j, none⟩) k.far.1 _, k.far⟩
theorem Gt.setf (k : Gt w0 W S P F m x pl fl) (j : Nat) : Gt w0 (W.setCell ⟨F, j, none⟩ (.int .i64 ((fl.getD j 0 + 1 : Nat) : Int))) S P F m x pl (bump fl j) := by
  have h9 := k.f.set_ j (.int .i64 ((fl.getD j 0 + 1 : Nat) : Int))
  rw [cnv_bump] at h9
  exact ⟨k.sh.far (p := ⟨F, j, none⟩) (Blk.ne_ k.sh k.f (by decide)) _, k.p.far (p := ⟨F, j, none⟩) k.ne _, h9, k.ne, k.bel.setCell (p := ⟨F, j, none⟩) k.far.2 _, k.far⟩
end
theorem all_ok (x : Sh) (A : Nat) (hA : x.s * x.t = A) (h1 : A ≤ 1000) (w : World) : Calls Try.prog 14 #[.agg #[.int .i64 x.m, .int .i64 x.b, .int .i64 x.s, .int .i64 x.t, .int .i64 x.n, .int .i64 x.l]] w fun e w' => e = .returned (.int .i64 A) ∧ Below w.heap.size w w' := by
  have e1 : IntKind.i64.wrap (x.s * x.t) = A := by rw [hA]; exact IntWalk.i64_in _ (by omega)
  have e2 : IntKind.i64.wrap (A : Int) = A := IntWalk.i64_in _ (by omega)
  go_enter Try.func14, Try.ntmps14
  go_wp2
  go_ret
  exact ⟨rfl, (Below.refl _ _).alloc (Nat.le_refl _) _⟩
section
variable {w0 W W' : World} {S P F m : Nat} {x : Sh} {pl fl : List Nat}
theorem allG (k : Gt w0 W S P F m x pl fl) (hm : x.m = m) (A : Nat) (hA : x.s * x.t = A) (h1 : A ≤ 1000) : Calls Try.prog 14 #[.agg #[.int .i64 (m : Int), .int .i64 x.b, .int .i64 x.s, .int .i64 x.t, .int .i64 x.n, .int .i64 x.l]] W fun e w' => e = .returned (.int .i64 A) ∧ Gt w0 w' S P F m x pl fl := by
  have h := all_ok x A hA h1 W
  rw [hm] at h
  refine h.mono ?_
  rintro e w' ⟨rfl, hb⟩
  exact ⟨rfl, k.later hb⟩
theorem parityG (k : Gt w0 W S P F m x pl fl) (hm : x.m = m) (h0 : 0 < m) (t q : Nat) (hq : t % m = q) : Calls Try.prog 15 #[.agg #[.int .i64 (m : Int), .int .i64 x.b, .int .i64 x.s, .int .i64 x.t, .int .i64 x.n, .int .i64 x.l], .int .i64 t] W fun e w' => e = .returned (.int .i64 (q : Int)) ∧ Gt w0 w' S P F m x pl fl := by
  have h := parity_ok x t m hm h0 W
  rw [hm, hq] at h
  refine h.mono ?_
  rintro e w' ⟨rfl, hb⟩
  exact ⟨rfl, k.later hb⟩
theorem memberG (k : Gt w0 W S P F m x pl fl) (hm : x.m = m) (h0 : 0 < m) (t c q : Nat) (hq : (t + 1 + c) % m = q) (ht : t ≤ 1000000) (hc : c ≤ 1000000) : Calls Try.prog 16 #[.agg #[.int .i64 (m : Int), .int .i64 x.b, .int .i64 x.s, .int .i64 x.t, .int .i64 x.n, .int .i64 x.l], .int .i64 t, .int .i64 c] W fun e w' => e = .returned (.int .i64 (q : Int)) ∧ Gt w0 w' S P F m x pl fl := by
  have h := member_ok x t c m hm h0 ht hc W
  rw [hm, hq] at h
  refine h.mono ?_
  rintro e w' ⟨rfl, hb⟩
  exact ⟨rfl, k.later hb⟩
end
set_option maxRecDepth 100000 in
set_option maxHeartbeats 12800000 in
theorem turns_walk (a b c d e f : Int) (fr : Nat) (w : World) (h8 : Ok8 a b c d e f) (hfr : fr < 256) :
    Calls Try.prog 5 #[.agg #[.int .u8 a, .int .u8 b, .int .u8 c, .int .u8 d, .int .u8 e, .int .u8 f], .int .u8 fr] w fun e w' => e = .returned (.bool true) ∧ Below w.heap.size w w' := by
  obtain ⟨x, hx⟩ : ∃ x, x = shOf a b c d e f := ⟨_, rfl⟩
  obtain ⟨hm, -, hs, ht⟩ := shOf_m h8
  rw [← hx] at hm hs ht
  obtain ⟨m, hxm⟩ := Int.eq_ofNat_of_zero_le (show 0 ≤ x.m by omega)
  have hm5 : m = 3 ∨ m = 4 ∨ m = 5 := by omega
  have a1 : 4 * 2 ≤ x.s * x.t := Int.mul_le_mul (by omega) (by omega) (by omega) (by omega)
  have a2 : x.s * x.t ≤ 6 * 3 := Int.mul_le_mul (by omega) (by omega) (by omega) (by omega)
  obtain ⟨A, hA⟩ := Int.eq_ofNat_of_zero_le (show 0 ≤ x.s * x.t by omega)
  have hA8 : 8 ≤ A := by omega
  have hA18 : A ≤ 18 := by omega
  obtain ⟨D, hD⟩ : ∃ D, D = A - m + 1 := ⟨_, rfl⟩
  obtain ⟨D1, hD1⟩ : ∃ D1, D1 = A - m := ⟨_, rfl⟩
  obtain ⟨M1, hM1⟩ : ∃ M1, M1 = m - 1 := ⟨_, rfl⟩
  obtain ⟨t0, ht0⟩ : ∃ t0, t0 = fr % D := ⟨_, rfl⟩
  obtain ⟨ch, hch⟩ : ∃ ch, ch = fr % M1 := ⟨_, rfl⟩
  have ht18 : t0 < 256 := by rw [ht0]; have := Nat.mod_le fr D; omega
  have hc5 : ch < 256 := by rw [hch]; have := Nat.mod_le fr M1; omega
  have e1 : (A : Int) - (m : Int) = D1 := by omega
  have e2 : (D1 : Int) + 1 = D := by omega
  have e3 : (fr : Int).tmod (D : Int) = t0 := by rw [Int.tmod_eq_emod_of_nonneg (by omega), ht0]; rfl
  have e4 : (fr : Int) % (D : Int) = t0 := by rw [ht0]; rfl
  have e5 : ((D : Int) == 0) = false := by simp; omega
  have e6 : (m : Int) - 1 = M1 := by omega
  have e7 : (fr : Int).tmod (M1 : Int) = ch := by rw [Int.tmod_eq_emod_of_nonneg (by omega), hch]; rfl
  have e8 : (fr : Int) % (M1 : Int) = ch := by rw [hch]; rfl
  have e9 : ((M1 : Int) == 0) = false := by simp; omega
  have hM0 : M1 ≠ 0 := by omega
  have hD0 : D ≠ 0 := by omega
  have w1_ : IntKind.i64.wrap (D1 : Int) = D1 := IntWalk.i64_in _ (by omega)
  have w2_ : IntKind.i64.wrap (D : Int) = D := IntWalk.i64_in _ (by omega)
  have w3_ : IntKind.i64.wrap (M1 : Int) = M1 := IntWalk.i64_in _ (by omega)
  have w4_ : IntKind.i64.wrap (fr : Int) = fr := IntWalk.i64_in _ (by omega)
  obtain ⟨r1, hr1⟩ : ∃ r1, r1 = t0 % m := ⟨_, rfl⟩
  obtain ⟨r2, hr2⟩ : ∃ r2, r2 = (t0 + 1 + ch) % m := ⟨_, rfl⟩
  have hr1m : r1 < m := by rw [hr1]; exact Nat.mod_lt _ (by omega)
  have hr2m : r2 < m := by rw [hr2]; exact Nat.mod_lt _ (by omega)
  have HR1 : Hid (∀ i, (t0 + i) % m = (r1 + i) % m) := Lib.hid fun i => by rw [hr1, Nat.mod_add_mod]
  have HR2 : Hid (∀ i, (t0 + i + 1 + ch) % m = (r2 + i) % m) := Lib.hid fun i => by rw [hr2, Nat.mod_add_mod]; congr 1; omega
  have HXM := Lib.hid hxm
  have HA := Lib.hid hA
  have HX := Lib.hid hx
  have H8 := Lib.hid h8
  have HP1 := Lib.hid (bumps_all hm5 hr1m)
  have HP2 := Lib.hid (bumps_all hm5 hr2m)
  have hm3 : 3 ≤ m := by omega
  have hm5' : m ≤ 5 := by omega
  have HAW := Lib.hid (awake_ok (w.alloc (.cells #[.int .u8 a, .int .u8 b, .int .u8 c, .int .u8 d, .int .u8 e, .int .u8 f] 29)))
  have HB0 := Lib.hid ((Below.refl w.heap.size w).alloc (Nat.le_refl _) (.cells #[.int .u8 a, .int .u8 b, .int .u8 c, .int .u8 d, .int .u8 e, .int .u8 f] 29))
  have HS0 := Lib.hid (Blk.new w 29 #[.int .u8 a, .int .u8 b, .int .u8 c, .int .u8 d, .int .u8 e, .int .u8 f])
  have hmz : ∀ W, (Instr.makeSlice 35 (.int .i64 (m : Int)) (.int .i64 (m : Int))).run Try.prog W = .ok (.slice (some ⟨W.heap.size, 0, none⟩) m m) (W.alloc (.cells (cnv (List.replicate m 0)) 3)) := fun W => by
    obtain ⟨i0, hi0, hz0, hz1, hz2⟩ := info_parts (show (Try.prog.info? 3).map (fun i => (i.zero, i.size, i.bytes)) = some (some (.int .i64 0), 1, 8) by kernel_rfl)
    rw [run_make_zeros 35 3 i0 (.int .i64 0) 1 8 Try.underlying35 hi0 hz0 hz1 hz2 rfl .i64 .i64 m (by omega) (by omega) W]
    congr 4
    rcases hm5 with rfl | rfl | rfl <;> rfl
  rw [hxm] at hm
  clear h8 hx hs ht a1 a2 hA hD hD1 hM1 ht0 hch hr1 hr2 hm5 hm hr1m hr2m
  go_enter Try.func5, Try.ntmps5
  go_upto_region 4 with (first
    | (go_at_call 10; (with_reducible refine HAW.out.mono ?_); rintro e w1 ⟨rfl, hb1⟩; have HB1 := Lib.hid (HB0.out.trans (hb1.mono HB0.out.size)); obtain ⟨p0, p1, p2, p3, p4, p5⟩ := (HS0.out.later hb1).cells6; clear hb1)
    | (go_at_call 13; (with_reducible refine (shapeL a b c d e f x HX.out H8.out _).mono ?_); rintro e w2 ⟨rfl, hb2⟩; have HB2 := Lib.hid (HB1.out.trans (hb2.mono HB1.out.size)); have HB3 : Hid (Below w.heap.size w (w2.alloc (.cells #[.int .i64 (m : Int), .int .i64 x.b, .int .i64 x.s, .int .i64 x.t, .int .i64 x.n, .int .i64 x.l] 23))) := Lib.hid (HB2.out.alloc HB2.out.size _); have HL2 := Lib.hid (Blk.new w2 23 #[.int .i64 (m : Int), .int .i64 x.b, .int .i64 x.s, .int .i64 x.t, .int .i64 x.n, .int .i64 x.l]); clear hb2)
    | fail "no")
  obtain ⟨S, hS⟩ : ∃ S, S = w2.heap.size := ⟨_, rfl⟩
  rw [← hS] at HL2 ⊢
  generalize w2.alloc (.cells #[.int .i64 (m : Int), .int .i64 x.b, .int .i64 x.s, .int .i64 x.t, .int .i64 x.n, .int .i64 x.l] 23) = W2 at HB3 HL2 ⊢
  obtain ⟨c0, c1, c2, c3, c4, c5⟩ := HL2.out.cells6
  clear hS
  go_cut [6, 7] (fun p q wx => ∃ P F, p = .slice (some ⟨P, 0, none⟩) m m ∧ q = .slice (some ⟨F, 0, none⟩) m m ∧ Gt w wx S P F m x (List.replicate m 0) (List.replicate m 0))
  case first =>
    have hSl := HL2.out.lt
    go_region_held3 (fun w' => ∀ b o, b < W2.heap.size → w'.cell? ⟨b, o, none⟩ = W2.cell? ⟨b, o, none⟩)
      (exact fun b o h => (Below.cell (p := ⟨b, o, none⟩) (B := W2.heap.size) (by (repeat' (first | (with_reducible exact Below.refl _ _) | (with_reducible exact Nat.le_refl _) | (with_reducible refine Below.drew ?_) | (with_reducible refine Below.alloc ?_ ?_ _) | (simp; done) | (simp; omega)))) h))
      (fail "no call")
    all_goals
      go_wp2_with fail
      go_meet
      refine ⟨_, _, rfl, rfl, ⟨((HL2.out.alloc _).alloc _).drew, ?_, ?_, by omega, below_drewN ((HB3.out.alloc HB3.out.size _).alloc (by have := HB3.out.size; simp; omega) _) 1, by have := HB3.out.size; omega⟩⟩
      all_goals (first | exact ((Blk.new W2 _ _).alloc _).drew | exact (Blk.new_ _ _ _ (by simp)).drew)
  case rest =>
    obtain ⟨P, F, rfl, rfl, hg⟩ := hcut
    have HG0 := Lib.hid hg
    obtain ⟨c0, c1, c2, c3, c4, c5⟩ := hg.sh.cells6
    clear hg HL2 HB3 HB2 HB1 HS0 HB0 HAW
    go_wp2
    go_loopw [8, 9, 23] (fun _ _ i wr => ∃ k : Nat, k ≤ m ∧ i = .int .i64 k ∧ Gt w wr S P F m x (bumps m r1 k) (bumps m r2 k)) (fun _ _ i _ => m - (intOf i).toNat)
    case atStart => exact ⟨0, by omega, rfl, HG0.out⟩
    case round =>
      clear c0 c1 c2 c3 c4 c5 HG0
      obtain ⟨k, hk, rfl, hg⟩ := hrel
      by_cases hlt : k < m
      · obtain ⟨T, hT⟩ : ∃ T, T = t0 + k := ⟨_, rfl⟩
        have hTi : (t0 : Int) + (k : Int) = T := by omega
        have wT : IntKind.i64.wrap (T : Int) = T := IntWalk.i64_in _ (by omega)
        obtain ⟨q1, hq1⟩ : ∃ q1, q1 = (r1 + k) % m := ⟨_, rfl⟩
        obtain ⟨q2, hq2⟩ : ∃ q2, q2 = (r2 + k) % m := ⟨_, rfl⟩
        have hq1m : q1 < m := by rw [hq1]; exact Nat.mod_lt _ (by omega)
        have hq2m : q2 < m := by rw [hq2]; exact Nat.mod_lt _ (by omega)
        have HQ1 : Hid (T % m = q1) := Lib.hid (by rw [hT, HR1.out, hq1])
        have HQ2 : Hid ((T + 1 + ch) % m = q2) := Lib.hid (by rw [hT, HR2.out, hq2])
        have HN1 : Hid (bumps m r1 (k + 1) = bump (bumps m r1 k) q1) := Lib.hid (by rw [hq1]; rfl)
        have HN2 : Hid (bumps m r2 (k + 1) = bump (bumps m r2 k) q2) := Lib.hid (by rw [hq2]; rfl)
        have hv1 := bumps_le m r1 k q1
        have hv2 := bumps_le m r2 k q2
        have hl1 := bumps_len m r1 k
        have hl2 := bumps_len m r2 k
        have hT1 : T ≤ 1000000 := by omega
        have hc1 : ch ≤ 1000000 := by omega
        have gq1 : (q1 : Int) < m := by omega
        have gq2 : (q2 : Int) < m := by omega
        have gk : (k : Int) < m := by omega
        obtain ⟨pl, hpl⟩ : ∃ pl, pl = bumps m r1 k := ⟨_, rfl⟩
        obtain ⟨fl, hfl⟩ : ∃ fl, fl = bumps m r2 k := ⟨_, rfl⟩
        rw [← hpl] at hg hv1 hl1 HN1
        rw [← hfl] at hg hv2 hl2 HN2
        obtain ⟨v1, hv1e⟩ : ∃ v1, v1 = pl.getD q1 0 := ⟨_, rfl⟩
        obtain ⟨v2, hv2e⟩ : ∃ v2, v2 = fl.getD q2 0 := ⟨_, rfl⟩
        rw [← hv1e] at hv1
        rw [← hv2e] at hv2
        have HC1 : Hid (∀ {W : World} (_ : Gt w W S P F m x pl fl), W.cell? ⟨P, q1, none⟩ = some (.int .i64 v1) ∧ W.frozen? ⟨P, q1, none⟩ = false) := Lib.hid fun q => ⟨by rw [hv1e]; exact q.p.at_ (cnv_at (by omega)), q.p.frozen q1⟩
        have HC2 : Hid (∀ {W : World} {l' : List Nat} (_ : Gt w W S P F m x l' fl), W.cell? ⟨F, q2, none⟩ = some (.int .i64 v2) ∧ W.frozen? ⟨F, q2, none⟩ = false) := Lib.hid fun q => ⟨by rw [hv2e]; exact q.f.at_ (cnv_at (by omega)), q.f.frozen q2⟩
        have HE1 : Hid (∀ {W : World} (_ : Gt w W S P F m x pl fl), Gt w (W.setCell ⟨P, q1, none⟩ (.int .i64 ((v1 : Int) + 1))) S P F m x (bump pl q1) fl) := Lib.hid fun q => by have h9 := q.setp q1; rw [← hv1e] at h9; exact h9
        have HE2 : Hid (∀ {W : World} {l' : List Nat} (_ : Gt w W S P F m x l' fl), Gt w (W.setCell ⟨F, q2, none⟩ (.int .i64 ((v2 : Int) + 1))) S P F m x l' (bump fl q2)) := Lib.hid fun q => by have h9 := q.setf q2; rw [← hv2e] at h9; exact h9
        have wv1 : IntKind.i64.wrap ((v1 : Int) + 1) = (v1 : Int) + 1 := IntWalk.i64_in _ (by omega)
        have wv2 : IntKind.i64.wrap ((v2 : Int) + 1) = (v2 : Int) + 1 := IntWalk.i64_in _ (by omega)
        have HG := Lib.hid hg
        have HPL := Lib.hid hl1
        obtain ⟨c0, c1, c2, c3, c4, c5⟩ := hg.sh.cells6
        clear hg hq1 hq2 hT hl1 hl2 hpl hfl hv1e hv2e
        go_wp2
        go_region_held3 (fun w' => w'.cell? ⟨S, 0, none⟩ = some (.int .i64 (m : Int)) ∧ w'.cell? ⟨S, 1, none⟩ = some (.int .i64 x.b) ∧ w'.cell? ⟨S, 2, none⟩ = some (.int .i64 x.s) ∧ w'.cell? ⟨S, 3, none⟩ = some (.int .i64 x.t) ∧ w'.cell? ⟨S, 4, none⟩ = some (.int .i64 x.n) ∧ w'.cell? ⟨S, 5, none⟩ = some (.int .i64 x.l))
          (first | exact ⟨by assumption, by assumption, by assumption, by assumption, by assumption, by assumption⟩ | go_keep)
          (first
            | (go_at_call 14; (with_reducible refine (allG HG.out.dr HXM.out A HA.out (by omega)).mono ?_); rintro e wa ⟨rfl, hga⟩; have HGa := Lib.hid hga; obtain ⟨a0, a1, a2, a3, a4, a5⟩ := hga.sh.cells6; clear hga)
            | fail "no arm")
        go_upto_region 10 with (first
          | (go_at_call 15; (with_reducible refine (parityG HGa.out HXM.out (by omega) T q1 HQ1.out).mono ?_); rintro e wb ⟨rfl, hgb⟩; obtain ⟨x0, x1⟩ := HC1.out hgb; have HGb := Lib.hid (HE1.out hgb); clear hgb)
          | fail "no")
        obtain ⟨W5, hW5⟩ : ∃ W5, W5 = wb.setCell ⟨P, q1, none⟩ (.int .i64 ((v1 : Int) + 1)) := ⟨_, rfl⟩
        rw [← hW5] at HGb ⊢
        clear hW5 x0 x1 c0 c1 c2 c3 c4 c5 a0 a1 a2 a3 a4 a5
        obtain ⟨c0, c1, c2, c3, c4, c5⟩ := HGb.out.sh.cells6
        obtain ⟨d0, d1, d2, d3, d4, d5⟩ := HGb.out.dr.sh.cells6
        go_region_law (first
          | (go_simp; go_at_call 16; (with_reducible refine (memberG HGb.out.dr HXM.out (by omega) T ch q2 HQ2.out (by omega) (by omega)).mono ?_); rintro e wd ⟨rfl, hgd⟩; obtain ⟨y0, y1, y2, y3, y4, y5⟩ := hgd.sh.cells6; obtain ⟨z0, z1⟩ := HC2.out hgd; have HGd := Lib.hid (HE2.out hgd); clear hgd)
          | fail "no")
        all_goals
          go_wp2
          go_roundw
          case rel => exact ⟨k + 1, by omega, by go_num, by rw [HN1.out, HN2.out]; exact HGd.out⟩
          case measure => simp [intOf]; omega
      · obtain rfl : m = k := by omega
        rw [HP1.out, HP2.out] at hg
        obtain ⟨c0, c1, c2, c3, c4, c5⟩ := hg.sh.cells6
        have HG := Lib.hid hg
        clear hg
        go_wp2
        go_loopw [10, 62] (fun _ i wr => ∃ j : Nat, j ≤ m ∧ i = .int .i64 j ∧ Gt w wr S P F m x (List.replicate m 1) (List.replicate m 1)) (fun _ i _ => m - (intOf i).toNat)
        case atStart => exact ⟨0, by omega, rfl, HG.out⟩
        case round =>
          clear c0 c1 c2 c3 c4 c5
          obtain ⟨j, hj, rfl, hg⟩ := hrel
          by_cases hlt : j < m
          · have hone : (List.replicate m 1).getD j 0 = 1 := by rw [List.getD_eq_getElem?_getD, List.getElem?_replicate, if_pos hlt]; rfl
            have p0 := hg.p.at_ (cnv_at (l := List.replicate m 1) (j := j) (by simp; omega))
            have f0 := hg.f.at_ (cnv_at (l := List.replicate m 1) (j := j) (by simp; omega))
            rw [hone] at p0 f0
            have gj : (j : Int) < m := by omega
            have HG2 := Lib.hid hg
            clear hg hone
            go_wp2
            go_roundw
            case rel => exact ⟨j + 1, by omega, by go_num, HG2.out⟩
            case measure => simp [intOf]; omega
          · obtain rfl : m = j := by omega
            go_wp2
            go_ret
            exact ⟨rfl, hg.bel⟩
theorem geomTurns_true (a b c d e f fr : Int) (w : World) (h0 : (Lit.int .u8 a).wf = true) (h1 : (Lit.int .u8 b).wf = true) (h2 : (Lit.int .u8 c).wf = true) (h3 : (Lit.int .u8 d).wf = true) (h4 : (Lit.int .u8 e).wf = true) (h5 : (Lit.int .u8 f).wf = true) (h6 : (Lit.int .u8 fr).wf = true) :
    Calls Try.prog 5 #[.agg #[.int .u8 a, .int .u8 b, .int .u8 c, .int .u8 d, .int .u8 e, .int .u8 f], .int .u8 fr] w fun e w' => e = .returned (.bool true) ∧ Below w.heap.size w w' := by
  have g1 := u8_in_ h6
  obtain ⟨fr, rfl⟩ := Int.eq_ofNat_of_zero_le g1.1
  exact turns_walk a b c d e f fr w (ok8_of h0 h1 h2 h3 h4 h5) (by omega)
end Go.Proofs.Ytidakgfblehipaa
