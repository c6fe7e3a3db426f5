/- The arguments of chapter 10's laws: their cells. The law's shapes: what Make, Encode and Decode do of them. No further condition. -/
import Derived.Test.YtcpngnnnggpfpaaIk
import Derived.WalkKit
import Derived.ProofKit
import Derived.OpenShut
import Derived.ChangeOld
import Derived.SizedLaws
import Derived.Lib.SmallJoins
import Derived.Deep.Slices
import Derived.Deep.Fields
import Derived.ChangeSame
import Derived.Test.YtcpngnnnggpfpaaIb
namespace Go.Proofs.Ytcpngnnnggpfpaa
open Go.RowKit Go.ChangeShapes Go.WideShapes Go.Deep

theorem one_row {H : Type} {enc : TypeId × Value → H} {w : World} {fuel : Nat} {α : Type} (T E n : Nat) (f : α → List Value) (ok : α → Prop) (hn : 0 < n) (hf0 : ∀ x, (f x).length = n) (hu : Try.prog.underlying T = some (.slice E)) (kn : Try.prog.cellsOf E = n)
    (dec : ∀ (fuel : Nat) (cs : List Value) (y : DataW H × List MemPlace), DataW.trod enc Try.prog w 0 (fun _ => true) true fuel E cs = some y → ∃ x, cs = f x ∧ ok x)
    {v : Value} {y : DataW H × List MemPlace} (hf : DataW.trod enc Try.prog w 0 (fun _ => true) true fuel T [v] = some y) :
    ∃ A c l, v = .slice A (List.length l) c ∧ Rd w A (l.flatMap f) ∧ l.length ≤ c ∧ c ≤ maxLen ∧ ∀ x ∈ l, ok x := by
  rcases open_slice hu hf with ⟨hcs, _⟩ | ⟨a, len', cap', m, n', D, Pl, hcs, hb, hl, hm, hmm, hx, hi⟩
  · obtain rfl := List.head_eq_of_cons_eq hcs
    exact ⟨none, 0, [], rfl, Rd.nil _ _, by simp, by unfold maxLen; omega, fun x hx => by simp at hx⟩
  · obtain rfl := List.head_eq_of_cons_eq hcs
    rw [kn] at hi
    obtain ⟨l, hll, hP⟩ := exists_list (fun i (x : α) => ok x ∧ ∀ j u, (f x)[j]? = some u → w.cell? (a.add (i * n + j)) = some u) len' (by
      intro i hil
      obtain ⟨cs', hc, ht⟩ := hi i (by rw [hmm]; simp; omega)
      obtain ⟨x, rfl, hok⟩ := dec _ _ _ ht
      obtain ⟨_, hcl, hat⟩ := World.cells?_some hc
      refine ⟨x, hok, fun j u hu => ?_⟩
      have hj : j < n := by have := (List.getElem?_eq_some_iff.1 hu).1; rw [hf0] at this; exact this
      rw [← Go.Deep.add_add, hat j hj]
      exact hu)
    subst hll
    refine ⟨some a, cap', l, rfl, fun j u hu => ?_, hl, hm, fun x hx => ?_⟩
    · refine ⟨a, rfl, ?_⟩
      have hjl := (List.getElem?_eq_some_iff.1 hu).1
      rw [flat_len f hf0] at hjl
      have hdm := Nat.div_add_mod j n
      have hml := Nat.mod_lt j hn
      obtain ⟨x, hx⟩ : ∃ x, l[j / n]? = some x := ⟨_, List.getElem?_eq_getElem ((Nat.div_lt_iff_lt_mul hn).2 hjl)⟩
      have hj : j = j / n * n + j % n := by rw [Nat.mul_comm]; exact hdm.symm
      have h1 := flat_get f hf0 l (j / n) (j % n) x hml hx
      rw [← hj] at h1
      have h2 := (hP (j / n) x hx).2 (j % n) u (by rw [← h1]; exact hu)
      rw [← hj] at h2
      exact h2
    · obtain ⟨i, hi⟩ := List.getElem?_of_mem hx
      exact (hP i x hi).1
theorem ce_of {H : Type} {enc : TypeId × Value → H} {w : World} (fuel : Nat) (cs : List Value) (y : DataW H × List MemPlace) (h : DataW.trod enc Try.prog w 0 (fun _ => true) true fuel 74 cs = some y) : ∃ x : Nat × Nat, cs = cev x ∧ x.1 < 256 ∧ x.2 < 18446744073709551616 := by
  obtain ⟨xs, n, -, -, hl, hlen, hf⟩ := DataW.trod_struct Try.underlying74 h
  have kb : Try.prog.cellsOf 5 = 1 := by kernel_rfl
  have ku : Try.prog.cellsOf 24 = 1 := by kernel_rfl
  have ka : Try.prog.cellsOf 74 = 2 := by kernel_rfl
  rw [ka] at hl
  match xs, hlen with
  | [y0, y1], _ =>
    have f0 : DataW.trod enc Try.prog w 0 (fun _ => true) true n 5 (List.take (Try.prog.cellsOf 5) (List.drop 0 cs)) = some y0 := hf 0 _ rfl
    have f1 : DataW.trod enc Try.prog w 0 (fun _ => true) true n 24 (List.take (Try.prog.cellsOf 24) (List.drop 1 cs)) = some y1 := hf 1 _ rfl
    rw [kb] at f0
    rw [ku] at f1
    clear hf h
    match cs, hl with
    | [c0, c1], _ =>
      obtain ⟨n0, e0, -, w0⟩ := DataW.trod_int Try.underlying5 f0
      obtain ⟨n1, e1, -, w1⟩ := DataW.trod_int Try.underlying24 f1
      obtain rfl : c0 = .int .u8 n0 := List.head_eq_of_cons_eq e0
      obtain rfl : c1 = .int .u64 n1 := List.head_eq_of_cons_eq e1
      have h0 := u8_in_ w0
      have h1 := u64_in_ w1
      refine ⟨(n0.toNat, n1.toNat), ?_, by simp only; omega, by simp only; omega⟩
      simp only [cev]
      rw [Int.toNat_of_nonneg h0.1, Int.toNat_of_nonneg h1.1]
theorem u16_of {H : Type} {enc : TypeId × Value → H} {w : World} (fuel : Nat) (cs : List Value) (y : DataW H × List MemPlace) (h : DataW.trod enc Try.prog w 0 (fun _ => true) true fuel 56 cs = some y) : ∃ x : Nat, cs = [.int .u16 x] ∧ x < 65536 := by
  obtain ⟨n0, e0, -, w0⟩ := DataW.trod_int Try.underlying56 h
  have h0 : 0 ≤ n0 ∧ n0 < 65536 := by simp [Lit.wf, IntKind.min, IntKind.max, IntKind.bits, IntKind.signed] at w0; omega
  refine ⟨n0.toNat, ?_, by omega⟩
  rw [e0, Int.toNat_of_nonneg h0.1]
theorem small_of {H : Type} {enc : TypeId × Value → H} {w : World} {r : Reach} {b0 : Nat} {v : Value} {d : DataW H} {ps : List MemPlace} (k : DataW.Trod enc Try.prog w 0 (fun _ => true) true 43 v d ps) (o : Value.okWide Try.prog w r b0 43 v) :
    ∃ (y : Sml) (A : Option Addr) (c : Nat) (B : Option Addr) (e : Nat), v = .agg #[.int .u64 y.sq, .int .i8 y.sg, .int .u8 y.ix, .slice A y.cs.length c, .slice B y.mp.length e] ∧ OkSml y ∧ Rd w A (ces y.cs) ∧ Rd w B (mus y.mp) := by
  obtain ⟨cs, rfl, hsz⟩ := okWide_struct Try.underlying43 o
  have k5 : Try.prog.cellsOf 43 = 5 := by kernel_rfl
  have ku : Try.prog.cellsOf 24 = 1 := by kernel_rfl
  have k8 : Try.prog.cellsOf 39 = 1 := by kernel_rfl
  have kb : Try.prog.cellsOf 5 = 1 := by kernel_rfl
  have kc : Try.prog.cellsOf 40 = 1 := by kernel_rfl
  have km : Try.prog.cellsOf 41 = 1 := by kernel_rfl
  have kce : Try.prog.cellsOf 74 = 2 := by kernel_rfl
  have k16 : Try.prog.cellsOf 56 = 1 := by kernel_rfl
  rw [k5] at hsz
  obtain ⟨l⟩ := cs
  match l, hsz with
  | [c0, c1, c2, c3, c4], _ =>
    obtain ⟨fuel, hf⟩ := k
    obtain ⟨xs, n, -, -, -, hlen, hg⟩ := DataW.trod_struct Try.underlying43 hf
    match xs, hlen with
    | [y0, y1, y2, y3, y4], _ =>
      have f0 : DataW.trod enc Try.prog w 0 (fun _ => true) true n 24 (List.take (Try.prog.cellsOf 24) (List.drop 0 [c0, c1, c2, c3, c4])) = some y0 := hg 0 _ rfl
      have f1 : DataW.trod enc Try.prog w 0 (fun _ => true) true n 39 (List.take (Try.prog.cellsOf 39) (List.drop 1 [c0, c1, c2, c3, c4])) = some y1 := hg 1 _ rfl
      have f2 : DataW.trod enc Try.prog w 0 (fun _ => true) true n 5 (List.take (Try.prog.cellsOf 5) (List.drop 2 [c0, c1, c2, c3, c4])) = some y2 := hg 2 _ rfl
      have f3 : DataW.trod enc Try.prog w 0 (fun _ => true) true n 40 (List.take (Try.prog.cellsOf 40) (List.drop 3 [c0, c1, c2, c3, c4])) = some y3 := hg 3 _ rfl
      have f4 : DataW.trod enc Try.prog w 0 (fun _ => true) true n 41 (List.take (Try.prog.cellsOf 41) (List.drop 4 [c0, c1, c2, c3, c4])) = some y4 := hg 4 _ rfl
      rw [ku] at f0
      rw [k8] at f1
      rw [kb] at f2
      rw [kc] at f3
      rw [km] at f4
      obtain ⟨n0, e0, -, w0⟩ := DataW.trod_int Try.underlying24 f0
      obtain ⟨n1, e1, -, w1⟩ := DataW.trod_int Try.underlying39 f1
      obtain ⟨n2, e2, -, w2⟩ := DataW.trod_int Try.underlying5 f2
      obtain rfl : c0 = .int .u64 n0 := List.head_eq_of_cons_eq e0
      obtain rfl : c1 = .int .i8 n1 := List.head_eq_of_cons_eq e1
      obtain rfl : c2 = .int .u8 n2 := List.head_eq_of_cons_eq e2
      obtain ⟨A, c, lc, rfl, ra, -, -, hc⟩ := one_row 40 74 2 cev (fun x => x.1 < 256 ∧ x.2 < 18446744073709551616) (by decide) cev_len Try.underlying40 kce (fun fuel cs y h => ce_of fuel cs y h) (v := c3) f3
      obtain ⟨B, d, lm, rfl, rb, -, -, hm⟩ := one_row 41 56 1 (fun x : Nat => [Value.int .u16 x]) (fun x => x < 65536) (by decide) (fun _ => rfl) Try.underlying41 k16 (fun fuel cs y h => u16_of fuel cs y h) (v := c4) f4
      have h0 := u64_in_ w0
      have h2 := u8_in_ w2
      have h1 : -128 ≤ n1 ∧ n1 ≤ 127 := by simp [Lit.wf, IntKind.min, IntKind.max, IntKind.bits, IntKind.signed] at w1; omega
      refine ⟨⟨n0.toNat, n1, n2.toNat, lc, lm⟩, A, c, B, d, ?_, ⟨by simp only; omega, h1, by simp only; omega, hc, hm⟩, ra, ?_⟩
      · simp only
        rw [Int.toNat_of_nonneg h0.1, Int.toNat_of_nonneg h2.1]
      · have e : lm.flatMap (fun x : Nat => [Value.int .u16 x]) = mus lm := by unfold mus; rw [← List.map_eq_flatMap]
        rw [← e]
        exact rb
theorem image_of {H : Type} {enc : TypeId × Value → H} {w : World} {r : Reach} {b0 base : Nat} {spare : Nat → Bool} {held : Bool} {v : Value} {d : DataW H} {ps : List MemPlace} (k : DataW.Trod enc Try.prog w base spare held 28 v d ps) (o : Value.okWide Try.prog w r b0 28 v) :
    ∃ (a b c : Int) (A : Option Addr) (n1 c1 : Nat) (B : Option Addr) (n2 c2 : Nat), v = .agg #[.int .u64 a, .int .i64 b, .int .i64 c, .slice A n1 c1, .slice B n2 c2] := by
  obtain ⟨cs, rfl, hsz⟩ := okWide_struct Try.underlying28 o
  have k5 : Try.prog.cellsOf 28 = 5 := by kernel_rfl
  have ku : Try.prog.cellsOf 24 = 1 := by kernel_rfl
  have ki : Try.prog.cellsOf 3 = 1 := by kernel_rfl
  have kc : Try.prog.cellsOf 25 = 1 := by kernel_rfl
  have km : Try.prog.cellsOf 26 = 1 := by kernel_rfl
  rw [k5] at hsz
  obtain ⟨l⟩ := cs
  match l, hsz with
  | [c0, c1, c2, c3, c4], _ =>
    obtain ⟨fuel, hf⟩ := k
    obtain ⟨xs, n, -, -, -, hlen, hg⟩ := DataW.trod_struct Try.underlying28 hf
    match xs, hlen with
    | [y0, y1, y2, y3, y4], _ =>
      have f0 : DataW.trod enc Try.prog w base spare held n 24 (List.take (Try.prog.cellsOf 24) (List.drop 0 [c0, c1, c2, c3, c4])) = some y0 := hg 0 _ rfl
      have f1 : DataW.trod enc Try.prog w base spare held n 3 (List.take (Try.prog.cellsOf 3) (List.drop 1 [c0, c1, c2, c3, c4])) = some y1 := hg 1 _ rfl
      have f2 : DataW.trod enc Try.prog w base spare held n 3 (List.take (Try.prog.cellsOf 3) (List.drop 2 [c0, c1, c2, c3, c4])) = some y2 := hg 2 _ rfl
      have f3 : DataW.trod enc Try.prog w base spare held n 25 (List.take (Try.prog.cellsOf 25) (List.drop 3 [c0, c1, c2, c3, c4])) = some y3 := hg 3 _ rfl
      have f4 : DataW.trod enc Try.prog w base spare held n 26 (List.take (Try.prog.cellsOf 26) (List.drop 4 [c0, c1, c2, c3, c4])) = some y4 := hg 4 _ rfl
      rw [ku] at f0
      rw [ki] at f1 f2
      rw [kc] at f3
      rw [km] at f4
      obtain ⟨n0, e0, -, -⟩ := DataW.trod_int Try.underlying24 f0
      obtain ⟨n1, e1, -, -⟩ := DataW.trod_int Try.underlying3 f1
      obtain ⟨n2, e2, -, -⟩ := DataW.trod_int Try.underlying3 f2
      obtain rfl : c0 = .int .u64 n0 := List.head_eq_of_cons_eq e0
      obtain rfl : c1 = .int .i64 n1 := List.head_eq_of_cons_eq e1
      obtain rfl : c2 = .int .i64 n2 := List.head_eq_of_cons_eq e2
      obtain ⟨A, m1, p1, rfl⟩ : ∃ A n c, c3 = .slice A n c := by
        rcases open_slice Try.underlying25 f3 with ⟨hcs, _⟩ | ⟨a, len', cap', m, n', D, Pl, hcs, _⟩
        · exact ⟨_, _, _, List.head_eq_of_cons_eq hcs⟩
        · exact ⟨_, _, _, List.head_eq_of_cons_eq hcs⟩
      obtain ⟨B, m2, p2, rfl⟩ : ∃ A n c, c4 = .slice A n c := by
        rcases open_slice Try.underlying26 f4 with ⟨hcs, _⟩ | ⟨a, len', cap', m, n', D, Pl, hcs, _⟩
        · exact ⟨_, _, _, List.head_eq_of_cons_eq hcs⟩
        · exact ⟨_, _, _, List.head_eq_of_cons_eq hcs⟩
      exact ⟨n0, n1, n2, A, m1, p1, B, m2, p2, rfl⟩
end Go.Proofs.Ytcpngnnnggpfpaa
namespace Go.Proofs.Ytcpngnnnggpfpaa
open Go.RowKit

abbrev shA (x : Sh) : Array Value := #[.int .i64 x.m, .int .i64 x.b, .int .i64 x.s, .int .i64 x.t, .int .i64 x.n, .int .i64 x.l]
/-- A shape and its numbers. -/
structure Fs (x : Sh) (T P g s t q l al sl : Nat) : Prop where
  may : mayB x = true
  gd : Gd x T P g
  es : x.s = s
  et : x.t = t
  el : x.l = l
  eal : x.s * x.t = al
  esl : x.m - 2 = sl
  eq : al * sl = q
  hs : 4 ≤ s ∧ s ≤ 6
  ht : 2 ≤ t ∧ t ≤ 3
  hl : 1 ≤ l ∧ l ≤ 18
  hm : 1 ≤ sl ∧ sl ≤ 3
  hg : 17 ≤ g ∧ g ≤ 25
  ha : al = s * t
theorem fs_of {a b c d e f : Int} (h : Ok8 a b c d e f) : ∃ T P g s t q l al sl, Fs (fullOf a b c d e f) T P g s t q l al sl := by
  obtain ⟨m1, m2, m3, m4⟩ := full_m h
  have h2 := mul3 _ _ _ m3 m4 m1
  have hm := full_may h
  have hl : (fullOf a b c d e f).l = ((fullOf a b c d e f).s - 3) * ((fullOf a b c d e f).t - 1) * ((fullOf a b c d e f).m - 2) := rfl
  rw [← hl] at h2
  generalize fullOf a b c d e f = x at *
  obtain ⟨T, P, g, hg⟩ := gd_of (x := x) (by omega) (by omega) (by omega)
  have hb := hg.b
  refine ⟨T, P, g, x.s.toNat, x.t.toNat, x.s.toNat * x.t.toNat * (x.m - 2).toNat, x.l.toNat, x.s.toNat * x.t.toNat, (x.m - 2).toNat, hm, hg, by omega, by omega, by omega, ?_, by omega, rfl, by omega, by omega, by omega, by omega, by omega, rfl⟩
  rw [Int.natCast_mul, Int.toNat_of_nonneg (by omega), Int.toNat_of_nonneg (by omega)]
section
variable {x : Sh} {T P g s t q l al sl : Nat}
theorem Fs.bounds (k : Fs x T P g s t q l al sl) : al ≤ 18 ∧ q ≤ 54 ∧ T ≤ 200 ∧ T = 12 + 9 * s + 4 * l ∧ 1 ≤ P ∧ P ≤ 200 := by
  have h1 := k.hs
  have h2 := k.ht
  have h3 := k.hm
  have h4 : al ≤ 18 := by rw [k.ha]; exact Nat.mul_le_mul h1.2 h2.2
  have h5 : q ≤ 54 := by rw [← k.eq]; exact Nat.mul_le_mul h4 h3.2
  have h6 := k.gd.t
  have h7 := k.es
  have h8 := k.el
  have h9 := k.hl
  have h10 := k.gd.p1
  omega
theorem makeF (k : Fs x T P g s t q l al sl) (y : Sml) (hy : OkSml y) (A B : Option Addr) (c d : Nat) (w : World) (ra : Rd w A (ces y.cs)) (rb : Rd w B (mus y.mp)) :
    Calls Try.prog 12 #[.agg (shA x), .agg #[.int .u64 y.sq, .int .i8 y.sg, .int .u8 y.ix, .slice A y.cs.length c, .slice B y.mp.length d]] w fun e w' => PicRes w' e (makeP y s t q l) ∧ Below w.heap.size w w' := by
  have h0 := k.bounds
  have h1 := k.hs
  have h2 := k.ht
  have h3 := k.hl
  have h4 := k.hm
  exact make_ok x y A B c d s t q l w hy k.es k.et k.el (by omega) (by omega) (by omega) al sl k.eal k.esl k.eq (by omega) ra rb
theorem picF (k : Fs x T P g s t q l al sl) (y : Sml) (hy : OkSml y) : OkPic (makeP y s t q l) ∧ OkIm s t q (makeP y s t q l) ∧ (makeP y s t q l).cs.length = s ∧ (makeP y s t q l).mp.length = l := by
  have h0 := k.bounds
  have h1 := k.hs
  have h2 := k.ht
  have h3 := k.hl
  exact makeP_ok y hy s t q l (by omega) (by omega) (by omega) (by omega)
theorem encF (k : Fs x T P g s t q l al sl) (gen : Nat) (hgen : gen < 18446744073709551616) (y : Pic) (ho : OkPic y) (hs : y.cs.length = s) (hl : y.mp.length = l) (A B : Option Addr) (c d : Nat) (w : World) (ra : Rd w A (sgs y.cs)) (rb : Rd w B (mps y.mp)) :
    Calls Try.prog 9 #[.agg (shA x), .int .u64 gen, .agg #[.int .u64 y.sq, .int .i64 ((y.sg : Int) - 1), .int .i64 y.ix, .slice A y.cs.length c, .slice B y.mp.length d]] w fun e w' => Sls w' e (pgsL gen g (picL y) P) ∧ Below w.heap.size w w' :=
  enc_ok x gen y A B c d T P g w k.may k.gd hgen ho (by rw [hs]; exact k.es.symm) (by rw [hl]; exact k.el.symm) ra rb
theorem decF (k : Fs x T P g s t q l al sl) (gen : Nat) (hgen : gen < 18446744073709551616) (A : Option Addr) (c : Nat) (pl : List Sc) (w : World) (hr : Rd w A (scs pl)) (hh : Hsc w pl) (ho : ∀ s ∈ pl, Oct s.raw) (hc : pl.length ≤ c) :
    Calls Try.prog 10 #[.agg (shA x), .int .u64 gen, .slice A pl.length c] w fun e w' => ImRes w.heap.size w' e (decP gen g P s t q l (rws pl)) (decC gen g P s t q l (rws pl)) ∧ Below w.heap.size w w' := by
  have h0 := k.bounds
  have h4 := k.hm
  by_cases hl : pl.length = P
  · rw [hl] at hc ⊢
    exact dec_ok x gen A c pl T P g s t q l w k.may k.gd hgen (by omega) k.es k.et k.el al sl k.eal k.esl k.eq (by omega) hr hh ho hl hc
  · have h1 : decC gen g P s t q l (rws pl) = 6 := by unfold decC; rw [if_neg (by rw [rws_len]; exact hl)]
    have h2 : decP gen g P s t q l (rws pl) = zeroPic := by unfold decP; rw [h1, if_neg (by decide)]
    rw [h1, h2]
    exact dec_size x gen A pl.length c T P g w k.may k.gd hl
theorem picT (k : Fs x T P g s t q l al sl) (y : Pic) (hs : y.cs.length = s) (hl : y.mp.length = l) : (picL y).length = T := by
  have h0 := k.bounds
  rw [picL_len, hs, hl]
  omega
end
end Go.Proofs.Ytcpngnnnggpfpaa
