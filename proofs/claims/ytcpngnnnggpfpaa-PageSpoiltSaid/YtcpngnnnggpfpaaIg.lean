/- The walk of PageGens. No further condition. -/
import Derived.Test.YtcpngnnnggpfpaaIf
namespace Go.Proofs.Ytcpngnnnggpfpaa
open Go.RowKit Go.ChangeShapes Go.WideShapes Go.Deep
attribute [local go_sem ↓] Go.wp_at_zero Go.wp_at_succ

theorem gens_one (gen other g P s t q : Nat) (y : Pic) (h : OkPic y) (k : OkIm s t q y) (hs : y.cs.length = s) (hg : gen < 18446744073709551616) (hP : 1 ≤ P ∧ P ≤ 65536) (hT : (picL y).length ≤ P * g) :
    decC other g P s t q y.mp.length (pgsL gen g (picL y) P) = if gen = other then 0 else 4 := by
  by_cases e : gen = other
  · subst e
    rw [if_pos rfl]
    exact (back_code gen g P s t q y h k hs hg hP.2 hT).1
  · rw [if_neg e]
    have h1 : pgsL gen g (picL y) P = pgL gen g (picL y) 0 :: (pgsL gen g (picL y) P).drop 1 := by
      have hl := pgsL_len gen g (picL y) P
      have h0 : (pgsL gen g (picL y) P)[0]'(by omega) = pgL gen g (picL y) 0 := by simp [pgsL]
      conv => lhs; rw [← List.drop_zero (l := pgsL gen g (picL y) P), List.drop_eq_getElem_cons (by omega), h0]
    rw [h1]
    exact other_code gen other g P s t q _ (picL y) 0 _ (picL_oct y) hg (by omega) (.inl e) (by rw [List.length_drop, pgsL_len]; omega)
theorem gens_two (gen g P s t q k : Nat) (y : Pic) (h : OkPic y) (ki : OkIm s t q y) (hs : y.cs.length = s) (hg : gen < 18446744073709551616) (hP : 1 ≤ P ∧ P ≤ 65536) (hT : (picL y).length ≤ P * g) (hk : k < P) :
    decC gen g P s t q y.mp.length ((pgsL gen g (picL y) P).drop k ++ (pgsL gen g (picL y) P).take k) = if k = 0 then 0 else 4 := by
  by_cases e : k = 0
  · subst e
    rw [if_pos rfl, List.drop_zero, List.take_zero, List.append_nil]
    exact (back_code gen g P s t q y h ki hs hg hP.2 hT).1
  · rw [if_neg e]
    have hl := pgsL_len gen g (picL y) P
    have h0 : (pgsL gen g (picL y) P)[k]'(by omega) = pgL gen g (picL y) k := by simp [pgsL]
    rw [List.drop_eq_getElem_cons (by omega), h0, List.cons_append]
    exact other_code gen gen g P s t q _ (picL y) k _ (picL_oct y) hg (by omega) (.inr e) (by rw [List.length_append, List.length_drop, List.length_take, pgsL_len]; omega)
/-- The arguments' blocks. -/
structure Dg (w0 W : World) (fb mb : Array Value) : Prop where
  fb : Blk W w0.heap.size 38 fb
  mb : Blk W (w0.heap.size + 1) 43 mb
  bel : Below w0.heap.size w0 W
theorem Dg.later {w0 w w' : World} {fb mb : Array Value} (k : Dg w0 w fb mb) (hb : Below w.heap.size w w') : Dg w0 w' fb mb := ⟨k.fb.later hb, k.mb.later hb, k.bel.trans (hb.mono k.bel.size)⟩
theorem Dg.start (w : World) (fb mb : Array Value) : Dg w ((w.alloc (.cells fb 38)).alloc (.cells mb 43)) fb mb :=
  ⟨(Blk.new w 38 _).alloc _, Blk.new_ _ _ _ (by simp), ((Below.refl _ _).alloc (Nat.le_refl _) _).alloc (by simp) _⟩
/-- And the shape's. -/
structure De (w0 W : World) (S : Nat) (x : Sh) (mb : Array Value) : Prop where
  sh : Blk W S 23 (shA x)
  mb : Blk W (w0.heap.size + 1) 43 mb
  bel : Below w0.heap.size w0 W
theorem De.later {w0 w w' : World} {S : Nat} {x : Sh} {mb : Array Value} (k : De w0 w S x mb) (hb : Below w.heap.size w w') : De w0 w' S x mb := ⟨k.sh.later hb, k.mb.later hb, k.bel.trans (hb.mono k.bel.size)⟩
theorem De.start {w0 w : World} {fb mb : Array Value} (k : Dg w0 w fb mb) (x : Sh) : De w0 (w.alloc (.cells (shA x) 23)) w.heap.size x mb := ⟨Blk.new w 23 _, k.mb.alloc _, k.bel.alloc k.bel.size _⟩
abbrev KeepE (w0 : World) (S : Nat) (x : Sh) (a b c d e : Value) (w' : World) : Prop := w'.cell? ⟨S, 0, none⟩ = some (.int .i64 x.m) ∧ w'.cell? ⟨S, 1, none⟩ = some (.int .i64 x.b) ∧ w'.cell? ⟨S, 2, none⟩ = some (.int .i64 x.s) ∧ w'.cell? ⟨S, 3, none⟩ = some (.int .i64 x.t) ∧ w'.cell? ⟨S, 4, none⟩ = some (.int .i64 x.n) ∧ w'.cell? ⟨S, 5, none⟩ = some (.int .i64 x.l) ∧ w'.cell? ⟨w0.heap.size + 1, 0, none⟩ = some a ∧ w'.cell? ⟨w0.heap.size + 1, 1, none⟩ = some b ∧ w'.cell? ⟨w0.heap.size + 1, 2, none⟩ = some c ∧ w'.cell? ⟨w0.heap.size + 1, 3, none⟩ = some d ∧ w'.cell? ⟨w0.heap.size + 1, 4, none⟩ = some e
theorem De.keep {w0 w : World} {S : Nat} {x : Sh} {a b c d e : Value} (k : De w0 w S x #[a, b, c, d, e]) : KeepE w0 S x a b c d e w := by
  obtain ⟨h0, h1, h2, h3, h4, h5⟩ := k.sh.cells6
  obtain ⟨m0, m1, m2, m3, m4⟩ := k.mb.cells5
  exact ⟨h0, h1, h2, h3, h4, h5, m0, m1, m2, m3, m4⟩
theorem Hsc.sub' {w : World} {l : List Sc} (h : Hsc w l) (k : Nat) : Hsc w (l.drop k ++ l.take k) := fun s hs => by
  rcases List.mem_append.1 hs with h1 | h1
  · exact h s (List.mem_of_mem_drop h1)
  · exact h s (List.mem_of_mem_take h1)
theorem gcell_ {w w' : World} {r : Option Nat} (hg : w.grownBy w' r) (b : Nat) (hb : b < w.heap.size) (hn : r ≠ some b) : (∀ o, w'.cell? ⟨b, o, none⟩ = w.cell? ⟨b, o, none⟩) ∧ ∀ o, w'.frozen? ⟨b, o, none⟩ = w.frozen? ⟨b, o, none⟩ := by
  have h := hg.block b hb (fun e => hn e.symm)
  exact ⟨fun o => by simp only [World.cell?, h], fun o => by simp only [World.frozen?, h]⟩
set_option maxRecDepth 100000 in
set_option maxHeartbeats 12800000 in
theorem gens_walk (a b c d e f : Int) (y : Sml) (A B : Option Addr) (ca cb gen other tu : Nat) (w : World) (h : Ok8 a b c d e f) (hy : OkSml y) (ra : Rd w A (ces y.cs)) (rb : Rd w B (mus y.mp)) (hg : gen < 18446744073709551616) (ho : other < 18446744073709551616) (ht : tu < 256) :
    Calls Try.prog 4 #[.agg #[.int .u8 a, .int .u8 b, .int .u8 c, .int .u8 d, .int .u8 e, .int .u8 f], .agg #[.int .u64 y.sq, .int .i8 y.sg, .int .u8 y.ix, .slice A y.cs.length ca, .slice B y.mp.length cb], .int .u64 gen, .int .u64 other, .int .u8 tu] w fun e w' => e = .returned (.bool true) ∧ Below w.heap.size w w' := by
  have hfl := fun W => full_ok a b c d e f W h
  obtain ⟨T, P, g, s, t, q, l, al, sl, hF⟩ := fs_of h
  generalize fullOf a b c d e f = x at *
  obtain ⟨hp, hi, hcs, hmp⟩ := picF hF y hy
  have hmk := fun W h1 h2 => makeF hF y hy A B ca cb W h1 h2
  obtain ⟨z, hz⟩ : ∃ z, z = makeP y s t q l := ⟨_, rfl⟩
  rw [← hz] at hp hi hcs hmp hmk
  have henc := fun (A B : Option Addr) (c d : Nat) (W : World) h1 h2 => encF hF gen hg z hp hcs hmp A B c d W h1 h2
  rw [hcs, hmp] at henc
  have hbd := hF.bounds
  have hpt : (picL z).length ≤ P * g := by rw [picT hF z hcs hmp]; exact hF.gd.all
  have hone := gens_one gen other g P s t q z hp hi hcs hg (by omega) hpt
  obtain ⟨k, hk⟩ : ∃ k, k = tu % P := ⟨_, rfl⟩
  have hkP : k < P := by rw [hk]; exact Nat.mod_lt _ (by omega)
  have htwo := gens_two gen g P s t q k z hp hi hcs hg (by omega) hpt hkP
  rw [hmp] at hone htwo
  obtain ⟨pg, hpg⟩ : ∃ pg, pg = pgsL gen g (picL z) P := ⟨_, rfl⟩
  have hpgl : pg.length = P := by rw [hpg]; exact pgsL_len _ _ _ _
  have hpgo : ∀ v ∈ pg, Oct v := by rw [hpg]; exact pgsL_oct (picL_oct z) P
  rw [← hpg] at hone htwo henc
  have HF := Lib.hid hF
  have HFL := Lib.hid hfl
  have HMK := Lib.hid hmk
  have HENC := Lib.hid henc
  have HONE := Lib.hid hone
  have HTWO := Lib.hid htwo
  have HPL := Lib.hid hpgl
  have HPO := Lib.hid hpgo
  have HRA := Lib.hid ra
  have HRB := Lib.hid rb
  have HAW := Lib.hid awake_ok
  have HD := Lib.hid (Dg.start w #[.int .u8 a, .int .u8 b, .int .u8 c, .int .u8 d, .int .u8 e, .int .u8 f] #[.int .u64 y.sq, .int .i8 y.sg, .int .u8 y.ix, .slice A y.cs.length ca, .slice B y.mp.length cb])
  clear h hy hfl hF hmk henc hone htwo hpg hpgl hpgo hz hp hi hpt ra rb
  go_enter Try.func4, Try.ntmps4
  go_upto_region 4 with (first
    | (go_at_call 7; (with_reducible refine (HAW.out _).mono ?_); rintro e w1 ⟨rfl, hb1⟩; have HD1 := Lib.hid (HD.out.later hb1); clear hb1; obtain ⟨i0, i1, i2, i3, i4, i5⟩ := HD1.out.fb.cells6)
    | (go_at_call 11; (with_reducible refine (HFL.out _).mono ?_); rintro e w2 ⟨rfl, hb2⟩; have HD2 := Lib.hid (HD1.out.later hb2); clear hb2))
  have HE0 := Lib.hid (De.start HD2.out x)
  unfold shA at HE0
  obtain ⟨S, hS⟩ : ∃ S, S = w2.heap.size := ⟨_, rfl⟩
  rw [← hS] at HE0
  rw [← hS]
  clear hS i0 i1 i2 i3 i4 i5 HD HD1 HD2 HAW HFL
  generalize w2.alloc (.cells #[.int .i64 x.m, .int .i64 x.b, .int .i64 x.s, .int .i64 x.t, .int .i64 x.n, .int .i64 x.l] 23) = W at HE0 ⊢
  have HE1 : Hid (De w W.drew S x _) := Lib.hid (HE0.out.later (below_drewN (Below.refl _ _) 1))
  obtain ⟨t0, t1, t2, t3, t4, t5, m0, m1, m2, m3, m4⟩ := HE0.out.keep
  obtain ⟨d0, d1, d2, d3, d4, d5, n0, n1, n2, n3, n4⟩ := HE1.out.keep
  go_region_held3 (KeepE w S x (.int .u64 y.sq) (.int .i8 y.sg) (.int .u8 y.ix) (.slice A y.cs.length ca) (.slice B y.mp.length cb))
    (first | exact HE3.out.keep | exact HE2.out.keep | exact HE1.out.keep | exact HE0.out.keep)
    (first
      | (go_at_call 12; (with_reducible refine (HMK.out W.drew (HRA.out.later HE1.out.bel) (HRB.out.later HE1.out.bel)).mono ?_); rintro e u1 ⟨⟨A1, c1, B1, c1', rfl, ra1, rb1⟩, hb1⟩; have HE2 := Lib.hid (HE1.out.later hb1); have HRA1 := Lib.hid ra1; have HRB1 := Lib.hid rb1; clear ra1 rb1 hb1)
      | (go_at_call 9; (with_reducible refine (HENC.out A1 B1 c1 c1' u1 HRA1.out HRB1.out).mono ?_); rintro e u2 ⟨⟨A2, c2, es, rfl, hes, hr2, hh2, hc2⟩, hb2⟩; have HE3 := Lib.hid (HE2.out.later hb2); have HR2 := Lib.hid hr2; have HH2 := Lib.hid hh2; have HES := Lib.hid hes; have HC2 := Lib.hid hc2; clear hr2 hh2 hes hc2 hb2))
  have hc2 := HC2.out
  rw [HPL.out] at hc2 ⊢
  have hel : es.length = P := by rw [← rws_len, HES.out, HPL.out]
  have hde1 := fun W hr hh => decF HF.out other ho A2 c2 es W hr hh (rws_oct HES.out HPO.out) (by rw [hel]; exact hc2)
  rw [hel, HES.out, HONE.out] at hde1
  generalize decP other g P s t q l pg = y1 at hde1
  obtain ⟨cd1, hcd1⟩ : ∃ cd1 : Int, cd1 = if gen = other then 0 else 4 := ⟨_, rfl⟩
  rw [← hcd1] at hde1
  have hrw2 : rws (es.drop k ++ es.take k) = pg.drop k ++ pg.take k := by rw [rws_app, ← HES.out]; simp [rws, List.map_drop, List.map_take]
  have hl2 : (es.drop k ++ es.take k).length = P := by rw [List.length_append, List.length_drop, List.length_take, hel]; omega
  have hoc := rws_oct HES.out HPO.out
  have ho2 : ∀ s ∈ es.drop k ++ es.take k, Oct s.raw := fun s hs => by
    rcases List.mem_append.1 hs with h1 | h1
    · exact hoc s (List.mem_of_mem_drop h1)
    · exact hoc s (List.mem_of_mem_take h1)
  have hde2 := fun W A c hr hh (hc : P ≤ c) => decF HF.out gen hg A c (es.drop k ++ es.take k) W hr hh ho2 (by rw [hl2]; exact hc)
  rw [hl2, hrw2, HTWO.out] at hde2
  generalize decP gen g P s t q l (pg.drop k ++ pg.take k) = y2 at hde2
  obtain ⟨cd2, hcd2⟩ : ∃ cd2 : Int, cd2 = if k = 0 then 0 else 4 := ⟨_, rfl⟩
  rw [← hcd2] at hde2
  have HDE1 := Lib.hid hde1
  have HDE2 := Lib.hid hde2
  have HCD1 := Lib.hid hcd1
  have HCD2 := Lib.hid hcd2
  have HEL := Lib.hid hel
  have hp0 : ((P : Int) == 0) = false := by simp; omega
  have hp1 : (P : Int) ≠ 0 := by omega
  have ht1 : (tu : Int).tmod (P : Int) = (k : Int) := by rw [Int.tmod_eq_emod_of_nonneg (by omega), hk]; rfl
  have ht2 : (tu : Int) % (P : Int) = (k : Int) := by rw [hk]; rfl
  have hw1 : IntKind.i64.wrap (tu : Int) = (tu : Int) := IntWalk.i64_in _ (by omega)
  obtain ⟨q0, q1, q2, q3, q4, q5⟩ := HE3.out.sh.cells6
  clear hde1 hde2 hcd1 hcd2 hel hrw2 hl2 hoc ho2 hk t0 t1 t2 t3 t4 t5 m0 m1 m2 m3 m4 d0 d1 d2 d3 d4 d5 n0 n1 n2 n3 n4 HE0 HE1 HE2 HMK HENC HRA HRB HRA1 HRB1
  go_upto_region 9 with (first
    | (go_at_call 10; (with_reducible refine (HDE1.out _ HR2.out HH2.out).mono ?_); rintro e u3 ⟨⟨A5, c5, B5, d5, rfl, -, -, -, -⟩, hb3⟩; have HE4 := Lib.hid (HE3.out.later hb3); have HR3 := Lib.hid (HR2.out.later hb3); have HH3 := Lib.hid (HH2.out.later hb3); clear hb3))
  have HE5 := Lib.hid (HE4.out.later ((Below.refl _ _).alloc (Nat.le_refl _) (.cells #[.int .u64 y1.sq, .int .i64 ((y1.sg : Int) - 1), .int .i64 y1.ix, .slice A5 y1.cs.length c5, .slice B5 y1.mp.length d5] 28)))
  have HR5 := Lib.hid (HR3.out.alloc (.cells #[.int .u64 y1.sq, .int .i64 ((y1.sg : Int) - 1), .int .i64 y1.ix, .slice A5 y1.cs.length c5, .slice B5 y1.mp.length d5] 28))
  have HH5 := Lib.hid (HH3.out.later ((Below.refl _ _).alloc (Nat.le_refl _) (.cells #[.int .u64 y1.sq, .int .i64 ((y1.sg : Int) - 1), .int .i64 y1.ix, .slice A5 y1.cs.length c5, .slice B5 y1.mp.length d5] 28)))
  generalize u3.alloc (.cells #[.int .u64 y1.sq, .int .i64 ((y1.sg : Int) - 1), .int .i64 y1.ix, .slice A5 y1.cs.length c5, .slice B5 y1.mp.length d5] 28) = V at HE5 HR5 HH5 ⊢
  obtain ⟨A3, hA3⟩ : ∃ A3, A3 = (if c2 = k then A2 else A2.map (·.add (k * 1))) := ⟨_, rfl⟩
  have hcut1 := fun W => cut_hi_ 29 1 Try.underlying29 (fun _ => by kernel_rfl) A2 P c2 k (k : Int) rfl (by omega) W
  have hcut2 := fun W => cut_lo_ 29 1 Try.underlying29 (fun _ => by kernel_rfl) A2 P c2 k (k : Int) rfl (by omega) W
  rw [← hA3] at hcut1
  have hr3 : ∀ W, Rd W A2 (scs es) → Rd W A3 (scs (es.drop k)) := fun W hW => by
    have := hW.cutg (size := 1) (c := c2) (n := k) (len := P) (by rw [scs_len, HEL.out, Nat.mul_one]) hc2
    rw [← hA3, Nat.mul_one, ← scs_drop] at this
    exact this
  have hr4 : ∀ W, Rd W A2 (scs es) → Rd W A2 (scs (es.take k)) := fun W hW => by rw [scs_take]; exact hW.take_ k
  have hcl := fun W (hW : Rd W A2 (scs es)) => cloned_ok A3 (c2 - k) (es.drop k) W (hr3 W hW) (by rw [List.length_drop, HEL.out]; omega)
  rw [show (es.drop k).length = P - k by rw [List.length_drop, HEL.out]] at hcl
  have hlk : (scs (es.take k)).length = k * 1 := by rw [scs_len, List.length_take, HEL.out]; omega
  have HR3' := Lib.hid hr3
  have HR4' := Lib.hid hr4
  have HCL := Lib.hid hcl
  have HLK := Lib.hid hlk
  have hpk : P - k + k = P := by omega
  have HPK := Lib.hid hpk
  obtain ⟨i0, hi0, hz0, hz1, hz2⟩ := info_parts (show (Try.prog.info? 47).map (fun i => (i.zero, i.size, i.bytes)) = some (some (.slice none 0 0), 1, 24) by kernel_rfl)
  have kP1 : (0 : Int) ≤ k := by omega
  have kP2 : (k : Int) ≤ P := by omega
  obtain ⟨t0, t1, t2, t3, t4, t5⟩ := HE5.out.sh.cells6
  obtain ⟨e0, e1, e2, e3, e4, e5⟩ := HE5.out.sh.drew.cells6
  clear hA3 hr3 hr4 hcl hlk hpk HR3 HH3 HE4 HE3 HR2 HH2 hp0 hp1 ht1 ht2 hw1
  go_cut [17] (fun q wx => q = .int .i64 cd2 ∧ Below w.heap.size w wx)
  case first =>
    go_region_held3 (fun w' => w'.cell? ⟨S, 0, none⟩ = some (.int .i64 x.m) ∧ w'.cell? ⟨S, 1, none⟩ = some (.int .i64 x.b) ∧ w'.cell? ⟨S, 2, none⟩ = some (.int .i64 x.s) ∧ w'.cell? ⟨S, 3, none⟩ = some (.int .i64 x.t) ∧ w'.cell? ⟨S, 4, none⟩ = some (.int .i64 x.n) ∧ w'.cell? ⟨S, 5, none⟩ = some (.int .i64 x.l))
      (exact (HE5.out.later (by (repeat' (first | (with_reducible exact Below.refl _ _) | (with_reducible exact Nat.le_refl _) | (with_reducible exact HV3.out) | (with_reducible exact HV3.out.size) | (with_reducible exact HV2.out) | (with_reducible exact HV2.out.size) | (with_reducible exact HV1.out) | (with_reducible exact HV1.out.size) | (with_reducible refine Below.drew ?_) | (with_reducible refine Below.alloc ?_ ?_ _) | (with_reducible refine Below.setCell ?_ ?_ _) | assumption | (exact Nat.le_of_lt (by assumption)) | (simp; done) | (simp; omega) | (have h9 := HV3.out.size; simp; omega) | (have h9 := HV2.out.size; simp; omega) | (have h9 := HV1.out.size; simp; omega))))).sh.cells6)
      (first
        | (go_at_call 13; (with_reducible refine (HCL.out _ (HR5.out.later (by (repeat' (first | (with_reducible exact Below.refl _ _) | (with_reducible exact Nat.le_refl _) | (with_reducible refine Below.drew ?_) | (with_reducible refine Below.alloc ?_ ?_ _) | (with_reducible refine Below.setCell ?_ ?_ _) | assumption | (exact Nat.le_of_lt (by assumption)) | (simp; done) | (simp; omega)))))).mono ?_); rintro e v1 ⟨r1, rfl, hown1, hb1⟩; obtain ⟨Ac, cc, rfl, -, -, -⟩ := own_formc hown1; have HV1 : Hid (Below V.heap.size V v1) := Lib.hid (Below.trans (by (repeat' (first | (with_reducible exact Below.refl _ _) | (with_reducible exact Nat.le_refl _) | (with_reducible refine Below.drew ?_) | (with_reducible refine Below.alloc ?_ ?_ _) | (with_reducible refine Below.setCell ?_ ?_ _) | assumption | (exact Nat.le_of_lt (by assumption)) | (simp; done) | (simp; omega)))) (hb1.mono (by (repeat' (first | (with_reducible exact Below.refl _ _) | (with_reducible exact Nat.le_refl _) | (with_reducible refine Below.drew ?_) | (with_reducible refine Below.alloc ?_ ?_ _) | (with_reducible refine Below.setCell ?_ ?_ _) | assumption | (exact Nat.le_of_lt (by assumption)) | (simp; done) | (simp; omega)))))); have HO1 := Lib.hid hown1; obtain ⟨hc1, hf1⟩ := bcell_ hb1; (try have hz11 : V.heap.size < v1.heap.size := (by have h9 := hb1.size; (try simp at h9); omega)); clear hb1 hown1)
        | (refine step_append_any _ (by rfl) _ _ 29 (by rfl) _ 47 i0 _ 1 24 Try.underlying29 hi0 hz0 hz1 hz2 rfl (by decide) (.slice Ac (P - k) cc) (P - k) (scs (es.drop k)) (by rfl) (ownsRow_later HO1.out (by (repeat' (first | (with_reducible exact Below.refl _ _) | (with_reducible exact Nat.le_refl _) | (with_reducible exact HV1.out) | (with_reducible exact HV1.out.size) | (with_reducible refine Below.drew ?_) | (with_reducible refine Below.alloc ?_ ?_ _) | (with_reducible refine Below.setCell ?_ ?_ _) | assumption | (exact Nat.le_of_lt (by assumption)) | (simp; done) | (simp; omega) | (have h9 := HV1.out.size; simp; omega))))) A2 k c2 (scs (es.take k)) (by rfl) HLK.out (HR4'.out _ (HR5.out.later (by (repeat' (first | (with_reducible exact Below.refl _ _) | (with_reducible exact Nat.le_refl _) | (with_reducible exact HV1.out) | (with_reducible exact HV1.out.size) | (with_reducible refine Below.drew ?_) | (with_reducible refine Below.alloc ?_ ?_ _) | (with_reducible refine Below.setCell ?_ ?_ _) | assumption | (exact Nat.le_of_lt (by assumption)) | (simp; done) | (simp; omega) | (have h9 := HV1.out.size; simp; omega)))))) (scs_one _) (by unfold maxLen; omega) (by omega) (by (repeat' (first | (with_reducible exact Below.refl _ _) | (with_reducible exact Nat.le_refl _) | (with_reducible exact HV1.out) | (with_reducible exact HV1.out.size) | (with_reducible refine Below.drew ?_) | (with_reducible refine Below.alloc ?_ ?_ _) | (with_reducible refine Below.setCell ?_ ?_ _) | assumption | (exact Nat.le_of_lt (by assumption)) | (simp; done) | (simp; omega) | (have h9 := HV1.out.size; simp; omega)))) ?_; intro v2 w2 hown2 hg2 hat2; rw [HPK.out, ← scs_app] at hown2; obtain ⟨A7, c7, rfl, hr7, hc7, -⟩ := own_formc hown2; have HR7 := Lib.hid hr7; have HC7 := Lib.hid hc7; have HV2 : Hid (Below V.heap.size V w2) := Lib.hid (Below.grown (by (repeat' (first | (with_reducible exact Below.refl _ _) | (with_reducible exact Nat.le_refl _) | (with_reducible exact HV1.out) | (with_reducible exact HV1.out.size) | (with_reducible refine Below.drew ?_) | (with_reducible refine Below.alloc ?_ ?_ _) | (with_reducible refine Below.setCell ?_ ?_ _) | assumption | (exact Nat.le_of_lt (by assumption)) | (simp; done) | (simp; omega) | (have h9 := HV1.out.size; simp; omega)))) hg2 (by (repeat' (first | (with_reducible exact Below.refl _ _) | (with_reducible exact Nat.le_refl _) | (with_reducible exact HV1.out) | (with_reducible exact HV1.out.size) | (with_reducible refine Below.drew ?_) | (with_reducible refine Below.alloc ?_ ?_ _) | (with_reducible refine Below.setCell ?_ ?_ _) | assumption | (exact Nat.le_of_lt (by assumption)) | (simp; done) | (simp; omega) | (have h9 := HV1.out.size; simp; omega)))) (fun b hb => Nat.le_trans (by (repeat' (first | (with_reducible exact Below.refl _ _) | (with_reducible exact Nat.le_refl _) | (with_reducible refine Below.drew ?_) | (with_reducible refine Below.alloc ?_ ?_ _) | (with_reducible refine Below.setCell ?_ ?_ _) | assumption | (exact Nat.le_of_lt (by assumption)) | (simp; done) | (simp; omega)))) (HO1.out.lt b hb).1)); (try (have hgg := gcell_ hg2 v1.heap.size; have hgh := hgg (by first | assumption | omega | (simp; done) | (simp; omega)) (fun e => absurd (HO1.out.lt _ e).2 (Nat.lt_irrefl _)); obtain ⟨gc1, gf1⟩ := hgh; clear hgg)); (try (have hgg := gcell_ hg2 V.heap.size; have hgh := hgg (by first | assumption | omega | (simp; done) | (simp; omega)) (fun e => by have h9 := (HO1.out.lt _ e).1; first | (simp at h9; done) | (simp at h9; omega) | omega); obtain ⟨gc0, gf0⟩ := hgh; clear hgg)); (try have hz20 : V.heap.size < w2.heap.size := (by have h9 := hg2.size; (try simp at h9); omega)); (try have hz21 : v1.heap.size < w2.heap.size := (by have h9 := hg2.size; (try simp at h9); omega)); clear hown2 hr7 hc7 hat2 hg2)
        | (go_at_call 10; (with_reducible refine (HDE2.out _ _ _ (HR7.out.later (by (repeat' (first | (with_reducible exact Below.refl _ _) | (with_reducible exact Nat.le_refl _) | (with_reducible exact HV2.out) | (with_reducible exact HV2.out.size) | (with_reducible refine Below.drew ?_) | (with_reducible refine Below.alloc ?_ ?_ _) | (with_reducible refine Below.setCell ?_ ?_ _) | assumption | (exact Nat.le_of_lt (by assumption)) | (simp; done) | (simp; omega) | (have h9 := HV2.out.size; simp; omega))))) ((HH5.out.later (by (repeat' (first | (with_reducible exact Below.refl _ _) | (with_reducible exact Nat.le_refl _) | (with_reducible exact HV2.out) | (with_reducible exact HV2.out.size) | (with_reducible refine Below.drew ?_) | (with_reducible refine Below.alloc ?_ ?_ _) | (with_reducible refine Below.setCell ?_ ?_ _) | assumption | (exact Nat.le_of_lt (by assumption)) | (simp; done) | (simp; omega) | (have h9 := HV2.out.size; simp; omega))))).sub' k) HC7.out).mono ?_); rintro e v3 ⟨⟨A8, c8, B8, d8, rfl, -, -, -, -⟩, hb3⟩; have HV3 : Hid (Below V.heap.size V v3) := Lib.hid (Below.trans (by (repeat' (first | (with_reducible exact Below.refl _ _) | (with_reducible exact Nat.le_refl _) | (with_reducible exact HV2.out) | (with_reducible exact HV2.out.size) | (with_reducible refine Below.drew ?_) | (with_reducible refine Below.alloc ?_ ?_ _) | (with_reducible refine Below.setCell ?_ ?_ _) | assumption | (exact Nat.le_of_lt (by assumption)) | (simp; done) | (simp; omega) | (have h9 := HV2.out.size; simp; omega)))) (hb3.mono (by (repeat' (first | (with_reducible exact Below.refl _ _) | (with_reducible exact Nat.le_refl _) | (with_reducible exact HV2.out) | (with_reducible exact HV2.out.size) | (with_reducible refine Below.drew ?_) | (with_reducible refine Below.alloc ?_ ?_ _) | (with_reducible refine Below.setCell ?_ ?_ _) | assumption | (exact Nat.le_of_lt (by assumption)) | (simp; done) | (simp; omega) | (have h9 := HV2.out.size; simp; omega)))))); obtain ⟨hc3, hf3⟩ := bcell_ hb3; clear hb3))
    all_goals
      go_wp2_with fail
      go_meet
      refine ⟨rfl, HE5.out.bel.trans (Below.mono (B := V.heap.size) ?_ HE5.out.bel.size)⟩
      (repeat' (first | (with_reducible exact Below.refl _ _) | (with_reducible exact Nat.le_refl _) | (with_reducible exact HV3.out) | (with_reducible exact HV3.out.size) | (with_reducible exact HV2.out) | (with_reducible exact HV2.out.size) | (with_reducible exact HV1.out) | (with_reducible exact HV1.out.size) | (with_reducible refine Below.drew ?_) | (with_reducible refine Below.alloc ?_ ?_ _) | (with_reducible refine Below.setCell ?_ ?_ _) | assumption | (exact Nat.le_of_lt (by assumption)) | (simp; done) | (simp; omega) | (have h9 := HV3.out.size; simp; omega) | (have h9 := HV2.out.size; simp; omega) | (have h9 := HV1.out.size; simp; omega)))
  case rest =>
    obtain ⟨rfl, hB⟩ := hcut
    have HB := Lib.hid hB
    clear hB t0 t1 t2 t3 t4 t5 e0 e1 e2 e3 e4 e5 hcut1 hcut2
    by_cases h1 : gen = other
    · have hc1 : cd1 = 0 := by rw [HCD1.out, if_pos h1]
      have d1 : ((gen : Int) == (other : Int)) = true := by rw [h1]; simp
      clear h1
      by_cases h2 : k = 0
      · have hc2 : cd2 = 0 := by rw [HCD2.out, if_pos h2]
        subst hc1 hc2 h2
        go_wp2
        go_ret
        exact ⟨rfl, HB.out⟩
      · have hc2 : cd2 = 4 := by rw [HCD2.out, if_neg h2]
        have d2 : ((k : Int) == 0) = false := by simp; omega
        subst hc1 hc2
        clear h2
        go_wp2
        go_ret
        exact ⟨rfl, HB.out⟩
    · have hc1 : cd1 = 4 := by rw [HCD1.out, if_neg h1]
      have d1 : ((gen : Int) == (other : Int)) = false := by simp; omega
      clear h1
      by_cases h2 : k = 0
      · have hc2 : cd2 = 0 := by rw [HCD2.out, if_pos h2]
        subst hc1 hc2 h2
        go_wp2
        go_ret
        exact ⟨rfl, HB.out⟩
      · have hc2 : cd2 = 4 := by rw [HCD2.out, if_neg h2]
        have d2 : ((k : Int) == 0) = false := by simp; omega
        subst hc1 hc2
        clear h2
        go_wp2
        go_ret
        exact ⟨rfl, HB.out⟩
theorem pageGens_true {H : Type} {enc : TypeId × Value → H} {r : Reach} {b0 : Nat} (a b c d e f : Int) (v : Value) (dd : DataW H) (ps : List MemPlace) (gen other tu : Int) (w : World)
    (h0 : (Lit.int .u8 a).wf = true) (h1 : (Lit.int .u8 b).wf = true) (h2 : (Lit.int .u8 c).wf = true) (h3 : (Lit.int .u8 d).wf = true) (h4 : (Lit.int .u8 e).wf = true) (h5 : (Lit.int .u8 f).wf = true)
    (k : DataW.Trod enc Try.prog w 0 (fun _ => true) true 43 v dd ps) (o : Value.okWide Try.prog w r b0 43 v) (hg : (Lit.int .u64 gen).wf = true) (ho : (Lit.int .u64 other).wf = true) (ht : (Lit.int .u8 tu).wf = true) {Z : Prop} (_ : Z) :
    Calls Try.prog 4 #[.agg #[.int .u8 a, .int .u8 b, .int .u8 c, .int .u8 d, .int .u8 e, .int .u8 f], v, .int .u64 gen, .int .u64 other, .int .u8 tu] w fun e w' => e = .returned (.bool true) ∧ Below w.heap.size w w' := by
  obtain ⟨y, A, ca, B, cb, rfl, hy, ra, rb⟩ := small_of k o
  have g1 := u64_in_ hg
  have g2 := u64_in_ ho
  have g3 := u8_in_ ht
  obtain ⟨gen, rfl⟩ := Int.eq_ofNat_of_zero_le g1.1
  obtain ⟨other, rfl⟩ := Int.eq_ofNat_of_zero_le g2.1
  obtain ⟨tu, rfl⟩ := Int.eq_ofNat_of_zero_le g3.1
  exact gens_walk a b c d e f y A B ca cb gen other tu w (ok8_of h0 h1 h2 h3 h4 h5) hy ra rb (by omega) (by omega) (by omega)
end Go.Proofs.Ytcpngnnnggpfpaa
