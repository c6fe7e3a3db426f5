/- The walk of PageBack. No further condition. -/
import Derived.Test.YtcpngnnnggpfpaaIg
import Derived.Test.YtcpngnnnggpfpaaIt
import Derived.Test.YtcpngnnnggpfpaaIu
namespace Go.Proofs.Ytcpngnnnggpfpaa
open Go.RowKit Go.ChangeShapes Go.WideShapes Go.Deep
attribute [local go_sem ↓] Go.wp_at_zero Go.wp_at_succ

/-- The shape's block, the image's. -/
structure Dh (w0 W : World) (S I : Nat) (x : Sh) (im : Array Value) : Prop where
  sh : Blk W S 23 (shA x)
  im : Blk W I 28 im
  bel : Below w0.heap.size w0 W
theorem Dh.later {w0 w w' : World} {S I : Nat} {x : Sh} {im : Array Value} (k : Dh w0 w S I x im) (hb : Below w.heap.size w w') : Dh w0 w' S I x im := ⟨k.sh.later hb, k.im.later hb, k.bel.trans (hb.mono k.bel.size)⟩
theorem De.image {w0 w : World} {S : Nat} {x : Sh} {mb : Array Value} (k : De w0 w S x mb) (im : Array Value) : Dh w0 (w.alloc (.cells im 28)) S w.heap.size x im := ⟨k.sh.alloc _, Blk.new w 28 _, k.bel.alloc k.bel.size _⟩
theorem rws_at {l : List Sc} {pg : List (List Int)} (h : rws l = pg) {k : Nat} {s : Sc} (hs : l[k]? = some s) : pg[k]? = some s.raw := by rw [← h]; exact rws_get hs
set_option maxRecDepth 100000 in
set_option maxHeartbeats 12800000 in
theorem back_walk (a b c d e f : Int) (y : Sml) (A B : Option Addr) (ca cb gen : Nat) (w : World) (h : Ok8 a b c d e f) (hy : OkSml y) (ra : Rd w A (ces y.cs)) (rb : Rd w B (mus y.mp)) (hg : gen < 18446744073709551616) :
    Calls Try.prog 5 #[.agg #[.int .u8 a, .int .u8 b, .int .u8 c, .int .u8 d, .int .u8 e, .int .u8 f], .agg #[.int .u64 y.sq, .int .i8 y.sg, .int .u8 y.ix, .slice A y.cs.length ca, .slice B y.mp.length cb], .int .u64 gen] w fun e w' => e = .returned (.bool true) ∧ Below w.heap.size w w' := by
  have hfl := fun W => full_ok a b c d e f W h
  obtain ⟨T, P, g, s, t, q, l, al, sl, hF⟩ := fs_of h
  generalize fullOf a b c d e f = x at *
  obtain ⟨hp, hi, hcs, hmp⟩ := picF hF y hy
  have hmk := fun W h1 h2 => makeF hF y hy A B ca cb W h1 h2
  obtain ⟨z, hz⟩ : ∃ z, z = makeP y s t q l := ⟨_, rfl⟩
  rw [← hz] at hp hi hcs hmp hmk
  have henc := fun (A B : Option Addr) (c d : Nat) (W : World) h1 h2 => encF hF gen hg z hp hcs hmp A B c d W h1 h2
  have hbd := hF.bounds
  have hpT := picT hF z hcs hmp
  have htel := fun (A B : Option Addr) (c d : Nat) (W : World) h1 h2 => tells_ok x gen z A B c d T P g W hF.gd hg (by omega) hp hpT (by omega) h1 h2
  have hpt : (picL z).length ≤ P * g := by rw [hpT]; exact hF.gd.all
  obtain ⟨hb1, hb2⟩ := back_code gen g P s t q z hp hi hcs hg (by omega) hpt
  rw [hmp] at hb1 hb2
  have hsm := fun A B A' B' c d c' d' W h1 h2 h3 h4 => same_ok z A B A' B' c d c' d' W h1 h2 h3 h4 (by have := hp.n; omega) (by have := hp.m; omega)
  obtain ⟨pg, hpg⟩ : ∃ pg, pg = pgsL gen g (picL z) P := ⟨_, rfl⟩
  have hpgl : pg.length = P := by rw [hpg]; exact pgsL_len _ _ _ _
  have hpgo : ∀ v ∈ pg, Oct v := by rw [hpg]; exact pgsL_oct (picL_oct z) P
  have hpgn : ∀ v ∈ pg, v.length ≤ 100000 := by
    rw [hpg]
    intro v hv
    obtain ⟨i, _, rfl⟩ := List.mem_map.1 hv
    rw [pgL_len]
    have := hF.hg
    omega
  rw [← hpg] at hb1 hb2 henc htel
  rw [hcs, hmp] at henc htel hsm
  have HF := Lib.hid hF
  have HFL := Lib.hid hfl
  have HMK := Lib.hid hmk
  have HENC := Lib.hid henc
  have HTEL := Lib.hid htel
  have HSM := Lib.hid hsm
  have HB1 := Lib.hid hb1
  have HB2 := Lib.hid hb2
  have HPL := Lib.hid hpgl
  have HPO := Lib.hid hpgo
  have HPN := Lib.hid hpgn
  have HRA := Lib.hid ra
  have HRB := Lib.hid rb
  have HAW := Lib.hid awake_ok
  have HCS := Lib.hid hcs
  have HMP := Lib.hid hmp
  have HD := Lib.hid (Dg.start w #[.int .u8 a, .int .u8 b, .int .u8 c, .int .u8 d, .int .u8 e, .int .u8 f] #[.int .u64 y.sq, .int .i8 y.sg, .int .u8 y.ix, .slice A y.cs.length ca, .slice B y.mp.length cb])
  have hPP : ((P : Int) != (P : Int)) = false := by simp
  have hPP2 : ((P : Int) == (P : Int)) = true := by simp
  clear h hy hfl hF hmk henc htel hsm hb1 hb2 hpg hpgl hpgo hpgn hz hp hi hpt hpT ra rb hcs hmp
  go_enter Try.func5, Try.ntmps5
  go_upto_region 4 with (first
    | (go_at_call 7; (with_reducible refine (HAW.out _).mono ?_); rintro e w1 ⟨rfl, hb1⟩; have HD1 := Lib.hid (HD.out.later hb1); clear hb1; obtain ⟨i0, i1, i2, i3, i4, i5⟩ := HD1.out.fb.cells6)
    | (go_at_call 11; (with_reducible refine (HFL.out _).mono ?_); rintro e w2 ⟨rfl, hb2⟩; have HD2 := Lib.hid (HD1.out.later hb2); clear hb2))
  have HE0 := Lib.hid (De.start HD2.out x)
  unfold shA at HE0
  obtain ⟨S, hS⟩ : ∃ S, S = w2.heap.size := ⟨_, rfl⟩
  rw [← hS] at HE0
  rw [← hS]
  clear hS i0 i1 i2 i3 i4 i5 HD HD1 HD2 HAW HFL
  generalize w2.alloc (.cells #[.int .i64 x.m, .int .i64 x.b, .int .i64 x.s, .int .i64 x.t, .int .i64 x.n, .int .i64 x.l] 23) = W at HE0 ⊢
  obtain ⟨t0, t1, t2, t3, t4, t5, m0, m1, m2, m3, m4⟩ := HE0.out.keep
  go_upto_region 5 with
    (go_at_call 12; (with_reducible refine (HMK.out _ (HRA.out.later HE0.out.bel) (HRB.out.later HE0.out.bel)).mono ?_); rintro e u1 ⟨⟨A1, c1, B1, c1', rfl, ra1, rb1⟩, hb1⟩; have HE1 := Lib.hid (HE0.out.later hb1); have HRA1 := Lib.hid ra1; have HRB1 := Lib.hid rb1; clear ra1 rb1 hb1)
  rw [HCS.out, HMP.out]
  have HH1 := Lib.hid (HE1.out.image #[.int .u64 z.sq, .int .i64 ((z.sg : Int) - 1), .int .i64 z.ix, .slice A1 s c1, .slice B1 l c1'])
  have HRA2 := Lib.hid (HRA1.out.alloc (.cells #[.int .u64 z.sq, .int .i64 ((z.sg : Int) - 1), .int .i64 z.ix, .slice A1 s c1, .slice B1 l c1'] 28))
  have HRB2 := Lib.hid (HRB1.out.alloc (.cells #[.int .u64 z.sq, .int .i64 ((z.sg : Int) - 1), .int .i64 z.ix, .slice A1 s c1, .slice B1 l c1'] 28))
  obtain ⟨I, hI⟩ : ∃ I, I = u1.heap.size := ⟨_, rfl⟩
  rw [← hI] at HH1
  rw [← hI]
  clear hI t0 t1 t2 t3 t4 t5 m0 m1 m2 m3 m4 HE0 HE1 HRA1 HRB1 HRA HRB HMK
  generalize u1.alloc (.cells #[.int .u64 z.sq, .int .i64 ((z.sg : Int) - 1), .int .i64 z.ix, .slice A1 s c1, .slice B1 l c1'] 28) = V at HH1 HRA2 HRB2 ⊢
  obtain ⟨t0, t1, t2, t3, t4, t5⟩ := HH1.out.sh.cells6
  obtain ⟨m0, m1, m2, m3, m4⟩ := HH1.out.im.cells5
  go_wp2_with (first
    | (go_at_call 9; (with_reducible refine (HENC.out A1 B1 c1 c1' V HRA2.out HRB2.out).mono ?_); rintro e u2 ⟨⟨A2, c2, es, rfl, hes, hr2, hh2, hc2⟩, hb2⟩; rw [HPL.out] at hc2 ⊢; have HH2 := Lib.hid (HH1.out.later hb2); have HR2 := Lib.hid hr2; have HHS2 := Lib.hid hh2; have HES := Lib.hid hes; have HC2 := Lib.hid hc2; have HBu := Lib.hid hb2; clear hr2 hh2 hes hc2 hb2; obtain ⟨p0, p1, p2, p3, p4, p5⟩ := HH2.out.sh.cells6; obtain ⟨q0, q1, q2, q3, q4⟩ := HH2.out.im.cells5)
    | (go_at_call 14; (with_reducible refine (HTEL.out A1 B1 c1 c1' u2 (HRA2.out.later HBu.out) (HRB2.out.later HBu.out)).mono ?_); rintro e u3 ⟨v, fs, rfl, hfs, hap⟩; obtain ⟨A3, c3, rfl, -, -, -⟩ := own_formc hap.al.row; have hfl : fs.length = P := (by rw [← rws_len, hfs]; exact HPL.out); have hr3 := Rd.of_own hap.al.row; rw [hfl]; have HR3 := Lib.hid hr3; have HFS := Lib.hid hfs; have HFL := Lib.hid hfl; have HHS3 := Lib.hid hap.al.hsc; have HB3 := Lib.hid hap.al.bel; clear hfs hap hfl hr3)
    | fail "no")
  have HH3 := Lib.hid (HH2.out.later HB3.out)
  have HR23 := Lib.hid (HR2.out.later HB3.out)
  have HHS23 := Lib.hid (HHS2.out.later HB3.out)
  have HRA3 := Lib.hid ((HRA2.out.later HBu.out).later HB3.out)
  have HRB3 := Lib.hid ((HRB2.out.later HBu.out).later HB3.out)
  have hel : es.length = P := by rw [← rws_len, HES.out, HPL.out]
  have HEL := Lib.hid hel
  clear hel t0 t1 t2 t3 t4 t5 m0 m1 m2 m3 m4 p0 p1 p2 p3 p4 p5 q0 q1 q2 q3 q4 HH1 HH2 HR2 HHS2 HB3 HBu HRA2 HRB2 HENC HTEL
  go_loopw [11, 36] (fun _ i wr => ∃ k : Nat, k ≤ P ∧ i = .int .i64 k ∧ Below u3.heap.size u3 wr) (fun _ i _ => P - (intOf i).toNat)
  case atStart => exact ⟨0, by omega, rfl, Below.refl _ _⟩
  case round =>
    obtain ⟨k, hk, rfl, hB⟩ := hrel
    have HB := Lib.hid hB
    by_cases hlt : k < P
    · obtain ⟨s1, hs1⟩ : ∃ s1, es[k]? = some s1 := ⟨_, List.getElem?_eq_getElem (by rw [HEL.out]; exact hlt)⟩
      obtain ⟨s2, hs2⟩ : ∃ s2, fs[k]? = some s2 := ⟨_, List.getElem?_eq_getElem (by rw [HFL.out]; exact hlt)⟩
      obtain ⟨ad, rfl, a0⟩ := (HR23.out.later hB) k (scv s1) (scs_get hs1)
      obtain ⟨bd, rfl, b0⟩ := (HR3.out.later hB) k (scv s2) (scs_get hs2)
      have hp1 := rws_at HES.out hs1
      have hp2 := rws_at HFS.out hs2
      obtain ⟨-, r1⟩ := (HHS23.out.later hB) s1 (List.mem_of_getElem? hs1)
      obtain ⟨-, r2⟩ := (HHS3.out.later hB) s2 (List.mem_of_getElem? hs2)
      have hn1 := HPN.out s1.raw (List.mem_of_getElem? hp1)
      obtain ⟨S1, raw1, cc1⟩ := s1
      obtain ⟨S2, raw2, cc2⟩ := s2
      simp only at hp1 hp2 r1 r2 hn1
      have hrr : raw1 = raw2 := by rw [hp1] at hp2; injection hp2
      subst hrr
      unfold scv at a0 b0
      simp only at a0 b0
      have g0 : (0 : Int) ≤ k := by omega
      have g1 : (k : Int) < P := by omega
      have heq : ∀ W, Below wr.heap.size wr W → Calls Try.prog 15 #[.slice S1 raw1.length cc1, .slice S2 raw1.length cc2] W fun e w' => e = .returned (.bool true) ∧ Below wr.heap.size wr w' := fun W hW => by
        refine (equalb_ok S1 S2 cc1 cc2 raw1 raw1 W (r1.later hW) (r2.later hW) (by omega)).mono ?_
        rintro e w' ⟨rfl, n, rfl⟩
        exact ⟨by simp, below_drewN hW n⟩
      have HEQ := Lib.hid heq
      have HRE : Hid (∀ W, Below wr.heap.size wr W → W.cell? (ad.add k) = some (.slice S1 raw1.length cc1) ∧ W.cell? (bd.add k) = some (.slice S2 raw1.length cc2)) := Lib.hid fun W h => ⟨by rw [h.cell (World.block_lt_of_cell? _ _ a0)]; exact a0, by rw [h.cell (World.block_lt_of_cell? _ _ b0)]; exact b0⟩
      clear hB hs1 hs2 hp1 hp2 r1 r2 heq hn1
      go_wp2_with fail
      have a1 : wr.drew.cell? (ad.add k) = some (.slice S1 raw1.length cc1) := a0
      have b1 : wr.drew.cell? (bd.add k) = some (.slice S2 raw1.length cc2) := b0
      go_region_held3 (fun w' => w'.cell? (ad.add k) = some (.slice S1 raw1.length cc1) ∧ w'.cell? (bd.add k) = some (.slice S2 raw1.length cc2))
        (first | exact ⟨a1, b1⟩ | exact ⟨a2, b2⟩)
        ((go_at_call 15; (with_reducible refine (HEQ.out wr.drew (below_drewN (Below.refl _ _) 1)).mono ?_); rintro e w4 ⟨rfl, hb4⟩; have HB4 := Lib.hid hb4; have a2 := (HRE.out _ HB4.out).1; have b2 := (HRE.out _ HB4.out).2; clear hb4))
      go_wp2_with fail
      go_roundw
      case rel => exact ⟨k + 1, by omega, by go_num, HB.out.trans (HB4.out.mono HB.out.size)⟩
      case measure => simp [intOf]; omega
    · obtain rfl : k = P := by omega
      have HH4 := Lib.hid (HH3.out.later hB)
      have HHS4 := Lib.hid (HHS23.out.later hB)
      have HR4 := Lib.hid (HR23.out.later hB)
      have HRA4 := Lib.hid (HRA3.out.later hB)
      have HRB4 := Lib.hid (HRB3.out.later hB)
      have hde := decF HF.out gen hg A2 c2 es wr HR4.out HHS4.out (rws_oct HES.out HPO.out) (by rw [HEL.out]; exact HC2.out)
      rw [HEL.out, HES.out, HB1.out, HB2.out] at hde
      have HDE := Lib.hid hde
      obtain ⟨t0, t1, t2, t3, t4, t5⟩ := HH4.out.sh.cells6
      clear hB hde
      go_wp2_with (first
        | (go_at_call 10; (with_reducible refine HDE.out.mono ?_); rintro e v1 ⟨⟨A5, c5, B5, d5, rfl, ra5, rb5, -, -⟩, hb5⟩; rw [HCS.out, HMP.out]; have HH5 := Lib.hid (HH4.out.later hb5); have HRA5 := Lib.hid (HRA4.out.later hb5); have HRB5 := Lib.hid (HRB4.out.later hb5); have HRA6 := Lib.hid ra5; have HRB6 := Lib.hid rb5; clear ra5 rb5 hb5; obtain ⟨m0, m1, m2, m3, m4⟩ := HH5.out.im.cells5; have hlt := HH5.out.im.lt)
        | (go_at_call 16; (with_reducible refine (HSM.out A1 B1 A5 B5 c1 c1' c5 d5 _ (HRA5.out.alloc _) (HRB5.out.alloc _) (HRA6.out.alloc _) (HRB6.out.alloc _)).mono ?_); rintro e v2 ⟨rfl, hb6⟩; have HB6 := Lib.hid ((HH5.out.bel.alloc HH5.out.bel.size _).trans (hb6.mono (HH5.out.bel.alloc HH5.out.bel.size _).size)); clear hb6)
        | fail "no")
      go_ret
      exact ⟨rfl, HB6.out⟩
theorem pageBack_true {H : Type} {enc : TypeId × Value → H} {r : Reach} {b0 : Nat} (a b c d e f : Int) (v : Value) (dd : DataW H) (ps : List MemPlace) (gen : Int) (w : World)
    (h0 : (Lit.int .u8 a).wf = true) (h1 : (Lit.int .u8 b).wf = true) (h2 : (Lit.int .u8 c).wf = true) (h3 : (Lit.int .u8 d).wf = true) (h4 : (Lit.int .u8 e).wf = true) (h5 : (Lit.int .u8 f).wf = true)
    (k : DataW.Trod enc Try.prog w 0 (fun _ => true) true 43 v dd ps) (o : Value.okWide Try.prog w r b0 43 v) (hg : (Lit.int .u64 gen).wf = true) {Z : Prop} (_ : Z) :
    Calls Try.prog 5 #[.agg #[.int .u8 a, .int .u8 b, .int .u8 c, .int .u8 d, .int .u8 e, .int .u8 f], v, .int .u64 gen] w fun e w' => e = .returned (.bool true) ∧ Below w.heap.size w w' := by
  obtain ⟨y, A, ca, B, cb, rfl, hy, ra, rb⟩ := small_of k o
  have g1 := u64_in_ hg
  obtain ⟨gen, rfl⟩ := Int.eq_ofNat_of_zero_le g1.1
  exact back_walk a b c d e f y A B ca cb gen w (ok8_of h0 h1 h2 h3 h4 h5) hy ra rb (by omega)
end Go.Proofs.Ytcpngnnnggpfpaa
