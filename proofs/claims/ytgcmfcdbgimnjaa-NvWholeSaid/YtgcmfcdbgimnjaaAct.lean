/- The argument []Act: its cells. No further condition. -/
import Derived.Test.YtgcmfcdbgimnjaaNv
import Derived.WalkKit
import Derived.ProofKit
import Derived.OpenShut
import Derived.ChangeOld
import Derived.SizedLaws
import Derived.Lib.SmallJoins
import Derived.Deep.Slices
import Derived.Deep.Fields
import Derived.ChangeSame
namespace Go.Proofs.Ytgcmfcdbgimnjaa
open Go.RowKit Go.ChangeShapes Go.WideShapes Go.Deep

/-- An act. -/
structure Av where
  d : Int
  k : Int
  lba : Int
  A : Option Addr
  raw : List Int
  c : Nat
  dur : Int
  up : Int
  r : Rt
def acv (x : Av) : List Value := [.int .u8 x.d, .int .u8 x.k, .int .i64 x.lba, .slice x.A x.raw.length x.c, .int .u64 x.dur, .int .u8 x.up, .int .i64 x.r.m, .int .i64 x.r.b, .int .i64 x.r.s, .int .i64 x.r.t, .int .i64 x.r.n, .int .i64 x.r.l, .int .u64 x.r.gen, .int .u64 x.r.dur, .int .i64 x.r.stale]
def acs (l : List Av) : List Value := l.flatMap acv
theorem acv_len (x : Av) : (acv x).length = 15 := rfl
structure AvOk (w : World) (x : Av) : Prop where
  d : 0 ≤ x.d ∧ x.d < 256
  k : 0 ≤ x.k ∧ x.k < 256
  lba : (Lit.int .i64 x.lba).wf = true
  data : Rd w x.A (byv x.raw) ∧ Oct x.raw ∧ x.raw.length ≤ x.c ∧ x.c ≤ maxLen
  dur : (Lit.int .u64 x.dur).wf = true
  up : 0 ≤ x.up ∧ x.up < 256
theorem ints6 {H : Type} {enc : TypeId × Value → H} {w : World} {fuel : Nat} {a b c d e f : Value} {y : DataW H × List MemPlace} (h : DataW.trod enc Try.prog w 0 (fun _ => true) true fuel 30 [a, b, c, d, e, f] = some y) :
    ∃ a' b' c' d' e' f' : Int, a = .int .i64 a' ∧ b = .int .i64 b' ∧ c = .int .i64 c' ∧ d = .int .i64 d' ∧ e = .int .i64 e' ∧ f = .int .i64 f' := by
  obtain ⟨xs, n, -, -, -, hlen, hf⟩ := DataW.trod_struct Try.underlying30 h
  have k1 : Try.prog.cellsOf 3 = 1 := by kernel_rfl
  match xs, hlen with
  | [y0, y1, y2, y3, y4, y5], _ =>
    have go : ∀ (i : Nat) (v : Value) (y : DataW H × List MemPlace), DataW.trod enc Try.prog w 0 (fun _ => true) true n 3 (List.take (Try.prog.cellsOf 3) (List.drop i [a, b, c, d, e, f])) = some y → ([a, b, c, d, e, f].drop i).head? = some v → ∃ z, v = .int .i64 z := by
      intro i v y h1 h2
      rw [k1] at h1
      obtain ⟨z, e1, -, -⟩ := DataW.trod_int Try.underlying3 h1
      rcases hd : [a, b, c, d, e, f].drop i with _ | ⟨u, us⟩
      · rw [hd] at h2; cases h2
      · rw [hd] at h2 e1
        injection h2 with h2
        exact ⟨z, by rw [← h2]; exact List.head_eq_of_cons_eq e1⟩
    obtain ⟨z0, e0⟩ := go 0 a y0 (hf 0 _ rfl) rfl
    obtain ⟨z1, e1⟩ := go 1 b y1 (hf 1 _ rfl) rfl
    obtain ⟨z2, e2⟩ := go 2 c y2 (hf 2 _ rfl) rfl
    obtain ⟨z3, e3⟩ := go 3 d y3 (hf 3 _ rfl) rfl
    obtain ⟨z4, e4⟩ := go 4 e y4 (hf 4 _ rfl) rfl
    obtain ⟨z5, e5⟩ := go 5 f y5 (hf 5 _ rfl) rfl
    exact ⟨z0, z1, z2, z3, z4, z5, e0, e1, e2, e3, e4, e5⟩
theorem root_of {H : Type} {enc : TypeId × Value → H} {w : World} {fuel : Nat} {a b c d e f g h i : Value} {y : DataW H × List MemPlace} (k : DataW.trod enc Try.prog w 0 (fun _ => true) true fuel 33 [a, b, c, d, e, f, g, h, i] = some y) :
    ∃ r : Rt, [a, b, c, d, e, f, g, h, i] = (rta r).toList := by
  obtain ⟨xs, n, -, -, -, hlen, hf⟩ := DataW.trod_struct Try.underlying33 k
  have k1 : Try.prog.cellsOf 3 = 1 := by kernel_rfl
  have k2 : Try.prog.cellsOf 31 = 1 := by kernel_rfl
  have k6 : Try.prog.cellsOf 30 = 6 := by kernel_rfl
  match xs, hlen with
  | [y0, y1, y2, y3], _ =>
    have f0 : DataW.trod enc Try.prog w 0 (fun _ => true) true n 30 (List.take (Try.prog.cellsOf 30) (List.drop 0 [a, b, c, d, e, f, g, h, i])) = some y0 := hf 0 _ rfl
    have f1 : DataW.trod enc Try.prog w 0 (fun _ => true) true n 31 (List.take (Try.prog.cellsOf 31) (List.drop 6 [a, b, c, d, e, f, g, h, i])) = some y1 := hf 1 _ rfl
    have f2 : DataW.trod enc Try.prog w 0 (fun _ => true) true n 31 (List.take (Try.prog.cellsOf 31) (List.drop 7 [a, b, c, d, e, f, g, h, i])) = some y2 := hf 2 _ rfl
    have f3 : DataW.trod enc Try.prog w 0 (fun _ => true) true n 3 (List.take (Try.prog.cellsOf 3) (List.drop 8 [a, b, c, d, e, f, g, h, i])) = some y3 := hf 3 _ rfl
    rw [k6] at f0
    rw [k2] at f1 f2
    rw [k1] at f3
    obtain ⟨a', b', c', d', e', f', rfl, rfl, rfl, rfl, rfl, rfl⟩ := ints6 (a := a) (b := b) (c := c) (d := d) (e := e) (f := f) f0
    obtain ⟨n1, e1, -, -⟩ := DataW.trod_int Try.underlying31 f1
    obtain ⟨n2, e2, -, -⟩ := DataW.trod_int Try.underlying31 f2
    obtain ⟨n3, e3, -, -⟩ := DataW.trod_int Try.underlying3 f3
    obtain rfl : g = .int .u64 n1 := List.head_eq_of_cons_eq e1
    obtain rfl : h = .int .u64 n2 := List.head_eq_of_cons_eq e2
    obtain rfl : i = .int .i64 n3 := List.head_eq_of_cons_eq e3
    exact ⟨⟨a', b', c', d', e', f', n1, n2, n3⟩, rfl⟩
theorem act_of {H : Type} {enc : TypeId × Value → H} {w : World} {fuel : Nat} {cs : List Value} {y : DataW H × List MemPlace} (h : DataW.trod enc Try.prog w 0 (fun _ => true) true fuel 37 cs = some y) :
    ∃ x : Av, cs = acv x ∧ AvOk w x := by
  obtain ⟨xs, n, -, -, hl, hlen, hf⟩ := DataW.trod_struct Try.underlying37 h
  have kb : Try.prog.cellsOf 5 = 1 := by kernel_rfl
  have ki : Try.prog.cellsOf 3 = 1 := by kernel_rfl
  have ku : Try.prog.cellsOf 31 = 1 := by kernel_rfl
  have kl : Try.prog.cellsOf 35 = 1 := by kernel_rfl
  have kr : Try.prog.cellsOf 33 = 9 := by kernel_rfl
  have ka : Try.prog.cellsOf 37 = 15 := by kernel_rfl
  rw [ka] at hl
  match xs, hlen with
  | [y0, y1, y2, y3, y4, y5, y6], _ =>
    have f0 : DataW.trod enc Try.prog w 0 (fun _ => true) true n 5 (List.take (Try.prog.cellsOf 5) (List.drop 0 cs)) = some y0 := hf 0 _ rfl
    have f1 : DataW.trod enc Try.prog w 0 (fun _ => true) true n 5 (List.take (Try.prog.cellsOf 5) (List.drop 1 cs)) = some y1 := hf 1 _ rfl
    have f2 : DataW.trod enc Try.prog w 0 (fun _ => true) true n 3 (List.take (Try.prog.cellsOf 3) (List.drop 2 cs)) = some y2 := hf 2 _ rfl
    have f3 : DataW.trod enc Try.prog w 0 (fun _ => true) true n 35 (List.take (Try.prog.cellsOf 35) (List.drop 3 cs)) = some y3 := hf 3 _ rfl
    have f4 : DataW.trod enc Try.prog w 0 (fun _ => true) true n 31 (List.take (Try.prog.cellsOf 31) (List.drop 4 cs)) = some y4 := hf 4 _ rfl
    have f5 : DataW.trod enc Try.prog w 0 (fun _ => true) true n 5 (List.take (Try.prog.cellsOf 5) (List.drop 5 cs)) = some y5 := hf 5 _ rfl
    have f6 : DataW.trod enc Try.prog w 0 (fun _ => true) true n 33 (List.take (Try.prog.cellsOf 33) (List.drop 6 cs)) = some y6 := hf 6 _ rfl
    rw [kb] at f0 f1 f5
    rw [ki] at f2
    rw [kl] at f3
    rw [ku] at f4
    rw [kr] at f6
    clear hf h
    match cs, hl with
    | [c0, c1, c2, c3, c4, c5, c6, c7, c8, c9, c10, c11, c12, c13, c14], _ =>
      obtain ⟨n0, e0, -, w0⟩ := DataW.trod_int Try.underlying5 f0
      obtain ⟨n1, e1, -, w1⟩ := DataW.trod_int Try.underlying5 f1
      obtain ⟨n2, e2, -, w2⟩ := DataW.trod_int Try.underlying3 f2
      obtain ⟨n4, e4, -, w4⟩ := DataW.trod_int Try.underlying31 f4
      obtain ⟨n5, e5, -, w5⟩ := DataW.trod_int Try.underlying5 f5
      obtain ⟨r, er⟩ := root_of (a := c6) (b := c7) (c := c8) (d := c9) (e := c10) (f := c11) (g := c12) (h := c13) (i := c14) f6
      obtain ⟨b, l, c, zs, g3, z3⟩ : ∃ b l c zs, c3 = .slice b l c ∧ c ≤ maxLen ∧ IsB w b l c zs := by
        rcases open_ints Try.underlying35 Try.underlying5 kb f3 with ⟨hcs, _⟩ | ⟨x, l, c, zs, hcs, _, hl, hm, hz, _, hcell, hwz⟩
        · exact ⟨_, _, _, [], List.head_eq_of_cons_eq hcs, by unfold maxLen; omega, .inl ⟨rfl, rfl, rfl, rfl⟩⟩
        · exact ⟨_, _, _, zs, List.head_eq_of_cons_eq hcs, hm, .inr ⟨x, rfl, hl, hm, by simpa using hz, hcell, hwz⟩⟩
      obtain ⟨raw, rfl, ra, ho, hrc⟩ := isB_of z3.2
      obtain rfl : c0 = .int .u8 n0 := List.head_eq_of_cons_eq e0
      obtain rfl : c1 = .int .u8 n1 := List.head_eq_of_cons_eq e1
      obtain rfl : c2 = .int .i64 n2 := List.head_eq_of_cons_eq e2
      obtain rfl : c4 = .int .u64 n4 := List.head_eq_of_cons_eq e4
      obtain rfl : c5 = .int .u8 n5 := List.head_eq_of_cons_eq e5
      subst g3
      refine ⟨⟨n0, n1, n2, b, raw, c, n4, n5, r⟩, ?_, ⟨u8_in_ w0, u8_in_ w1, w2, ⟨ra, ho, hrc, z3.1⟩, w4, u8_in_ w5⟩⟩
      rw [er]
      rfl
theorem acts_of {H : Type} {enc : TypeId × Value → H} {w : World} {r : Reach} {b0 : Nat} {v : Value} {d : DataW H} {ps : List MemPlace} (k : DataW.Trod enc Try.prog w 0 (fun _ => true) true 22 v d ps) (o : Value.okWide Try.prog w r b0 22 v) :
    ∃ A c l, v = .slice A (List.length l) c ∧ Rd w A (acs l) ∧ l.length ≤ c ∧ c ≤ maxLen ∧ ∀ x ∈ l, AvOk w x := by
  obtain ⟨A, len, cap, rfl⟩ := okWide_slice Try.underlying22 o
  have ka : Try.prog.cellsOf 37 = 15 := by kernel_rfl
  obtain ⟨fuel, hf⟩ := k
  rcases open_slice Try.underlying22 hf with ⟨hcs, _⟩ | ⟨a, len', cap', m, n, D, Pl, hcs, hb, hl, hm, hmm, hx, hi⟩
  · simp [Value.cells] at hcs
    obtain ⟨rfl, rfl, rfl⟩ := hcs
    exact ⟨none, 0, [], rfl, Rd.nil _ _, by simp, by unfold maxLen; omega, fun x hx => by simp at hx⟩
  · simp [Value.cells] at hcs
    obtain ⟨rfl, rfl, rfl⟩ := hcs
    rw [ka] at hi
    obtain ⟨l, hll, hP⟩ := exists_list (fun i (x : Av) => AvOk w x ∧ ∀ j u, (acv x)[j]? = some u → w.cell? (a.add (i * 15 + j)) = some u) len (by
      intro i hil
      obtain ⟨cs', hc, ht⟩ := hi i (by rw [hmm]; simp; omega)
      obtain ⟨x, rfl, hok⟩ := act_of ht
      obtain ⟨_, hcl, hat⟩ := World.cells?_some hc
      refine ⟨x, hok, fun j u hu => ?_⟩
      have hj : j < 15 := (List.getElem?_eq_some_iff.1 hu).1
      rw [← Go.Deep.add_add, hat j hj]
      exact hu)
    subst hll
    refine ⟨some a, cap, l, rfl, fun j u hu => ?_, hl, hm, fun x hx => ?_⟩
    · refine ⟨a, rfl, ?_⟩
      have hjl := (List.getElem?_eq_some_iff.1 hu).1
      rw [show acs l = l.flatMap acv from rfl, flat_len acv acv_len] at hjl
      obtain ⟨x, hx⟩ : ∃ x, l[j / 15]? = some x := ⟨_, List.getElem?_eq_getElem (by omega)⟩
      have hj : j = j / 15 * 15 + j % 15 := by omega
      have h1 := flat_get acv acv_len l (j / 15) (j % 15) x (Nat.mod_lt _ (by decide)) hx
      rw [← hj] at h1
      have h2 := (hP (j / 15) x hx).2 (j % 15) u (by rw [← h1]; exact hu)
      rw [← hj] at h2
      exact h2
    · obtain ⟨i, hi⟩ := List.getElem?_of_mem hx
      exact (hP i x hi).1
end Go.Proofs.Ytgcmfcdbgimnjaa
