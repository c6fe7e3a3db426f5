/- Rows of records between calls; the walk of StageViews. No further condition. -/
import Derived.Test.YtnmmhkggojnlpaaSt
import Derived.Test.YtnmmhkggojnlpaaSt2
import Derived.Test.YtnmmhkggojnlpaaSt4
namespace Go.Proofs.Ytnmmhkggojnlpaa
open Go.RowKit

/-- A row of records, to be read. -/
structure RR (w : World) (A : Option Addr) (c : Nat) (l : List Rc) : Prop where
  rd : Rd w A (rcs l)
  hd : Hd w l
  form : ∀ ad, A = some ad → ∃ h o, ad = ⟨h, o, none⟩
  cap : l.length ≤ c
  few : l.length ≤ 1000
  wf : ∀ r ∈ l, (Lit.int .i64 r.lba).wf = true
  raw : ∀ r ∈ l, r.raw.length ≤ 1000
theorem RR.later {w w' : World} {A : Option Addr} {c : Nat} {l : List Rc} (k : RR w A c l) (h : Below w.heap.size w w') : RR w' A c l := ⟨k.rd.later h, k.hd.later h, k.form, k.cap, k.few, k.wf, k.raw⟩
theorem RR.dn {w : World} {A : Option Addr} {c : Nat} {l : List Rc} (k : RR w A c l) (n : Nat) : RR (w.drewN n) A c l := k.later (below_drewN (Below.refl _ _) n)
theorem RR.of_own {w : World} {base : Nat} {v : Value} {l m : List Rc} (h : w.ownsRow base 35 4 v l.length (rcs l)) (hd : Hd w l) (hm : ∀ r ∈ l, r ∈ m) (hl : l.length ≤ 1000) (hw : ∀ r ∈ m, (Lit.int .i64 r.lba).wf = true) (hr : ∀ r ∈ m, r.raw.length ≤ 1000) : ∃ A c, v = .slice A l.length c ∧ RR w A c l := by
  obtain ⟨A, c, e, h1, h2, h3⟩ := own_form_ h
  exact ⟨A, c, e, h2, hd, h1, h3, hl, fun r h => hw r (hm r h), fun r h => hr r (hm r h)⟩
theorem make_rr (A : Option Addr) (c : Nat) (l : List Im) (from_ : Nat) (w : World) (ra : ArgI w A l) (hl : l.length ≤ 1000) (hf : from_ < 65536) :
    Calls Try.prog 9 #[.slice A l.length c, .int .u16 from_] w fun e w' => ∃ B d R, e = .returned (.slice B R.length d) ∧ R.length = l.length ∧ RR w' B d R ∧ R.map Rc.con = mkc from_ l ∧ Below w.heap.size w w' := by
  refine (make_ok A c l from_ w ra hl hf).mono ?_
  rintro e w' ⟨v, R, rfl, hown, hcon, hhd, hb⟩
  have hlen : R.length = l.length := by rw [← List.length_map (f := Rc.con), hcon, mkc_len]
  have hmem : ∀ r ∈ R, ∃ s ∈ l, r.lba = s.lba ∧ r.raw = [s.fill] := by
    intro r hr
    have : r.con ∈ mkc from_ l := by rw [← hcon]; exact List.mem_map_of_mem hr
    obtain ⟨i, hi, e⟩ := List.mem_iff_getElem.1 this
    have hi' : i < l.length := by rw [mkc_len] at hi; exact hi
    simp only [mkc, List.getElem_mapIdx] at e
    unfold Rc.con at e
    exact ⟨l[i], List.getElem_mem hi', by injection e with _ e; injection e with _ e; injection e with e _; exact e.symm, by injection e with _ e; injection e with _ e; injection e with _ e; exact e.symm⟩
  obtain ⟨B, d, rfl, k⟩ := RR.of_own hown hhd.hd (fun r h => h) (by omega) (fun r hr => by
    obtain ⟨s, hs, e, _⟩ := hmem r hr
    obtain ⟨i, hi⟩ := List.getElem?_of_mem hs
    obtain ⟨x, _, _, _, _, _, hb, _⟩ := ra i s hi
    exact i64_wf (by omega) (by omega)) (fun r hr => by
    obtain ⟨s, hs, _, e⟩ := hmem r hr
    rw [e]
    simp)
  exact ⟨B, d, R, rfl, hlen, k, hcon, hb⟩
theorem make_rr1 (A : Option Addr) (c : Nat) (l : List Im) (w : World) (ra : ArgI w A l) (hl : l.length ≤ 1000) :
    Calls Try.prog 9 #[.slice A l.length c, .int .u16 1] w fun e w' => ∃ B d R, e = .returned (.slice B R.length d) ∧ R.length = l.length ∧ RR w' B d R ∧ R.map Rc.con = mkc 1 l ∧ Below w.heap.size w w' := make_rr A c l 1 w ra hl (by decide)
theorem sview_rr (A : Option Addr) (c : Nat) (l : List Rc) (w : World) (k : RR w A c l) :
    Calls Try.prog 11 #[.slice A l.length c] w fun e w' => ∃ B d, e = .returned (.slice B (vw l).length d) ∧ RR w' B d (vw l) ∧ Below w.heap.size w w' := by
  refine (view_ok A c l w k.rd (by have := k.few; omega) k.wf).mono ?_
  rintro e w' ⟨v, rfl, hown, hb⟩
  obtain ⟨B, d, rfl, q⟩ := RR.of_own hown ((k.hd.later hb).sub (vw_sub l)) (vw_sub l) (Nat.le_trans (vw_len l) k.few) k.wf k.raw
  exact ⟨B, d, rfl, q, hb⟩
theorem lview_rr (A : Option Addr) (c : Nat) (l : List Rc) (w : World) (k : RR w A c l) :
    Calls Try.prog 12 #[.slice A l.length c] w fun e w' => ∃ B d, e = .returned (.slice B (vw l).length d) ∧ RR w' B d (vw l) ∧ Below w.heap.size w w' := by
  refine (lview_ok A c l w k.rd k.form (by have := k.few; omega) k.cap).mono ?_
  rintro e w' ⟨v, rfl, hown, hb⟩
  obtain ⟨B, d, rfl, q⟩ := RR.of_own hown ((k.hd.later hb).sub (vw_sub l)) (vw_sub l) (Nat.le_trans (vw_len l) k.few) k.wf k.raw
  exact ⟨B, d, rfl, q, hb⟩
theorem same_rr (A B : Option Addr) (c d : Nat) (l m : List Rc) (w : World) (k : RR w A c l) (q : RR w B d m) :
    Calls Try.prog 10 #[.slice A l.length c, .slice B m.length d] w fun e w' => e = .returned (.bool (decide (l.map Rc.con = m.map Rc.con))) ∧ ∃ n, w' = w.drewN n :=
  same_ok A B c d l m w k.rd q.rd k.hd q.hd (by have := k.few; omega) fun r h => by have := k.raw r h; omega
set_option maxRecDepth 100000 in
set_option maxHeartbeats 6400000 in
theorem views_walk (A : Option Addr) (c : Nat) (l : List Im) (from_ : Nat) (w : World) (ra : ArgI w A l) (hf : from_ < 65536) :
    Calls Try.prog 3 #[.slice A l.length c, .int .u16 from_] w fun e w' => e = .returned (.bool true) ∧ Below w.heap.size w w' := by
  have ha := awake_ok w
  by_cases hlong : 60 < l.length
  · go_enter Try.func3, Try.ntmps3
    go_wp2_with (go_at_call 8; refine ha.mono ?_; rintro e w1 ⟨rfl, hb1⟩)
    go_ret
    exact ⟨rfl, hb1⟩
  have hfew : l.length ≤ 60 := by omega
  have HAW := Lib.hid ha
  have HRA := Lib.hid ra
  clear hlong ha ra
  go_enter Try.func3, Try.ntmps3
  go_wp2_with (first
    | (go_at_call 8; refine HAW.out.mono ?_; rintro e w1 ⟨rfl, hb1⟩; have HB1 := Lib.hid hb1; have HR1 := Lib.hid (HRA.out.later hb1); clear hb1)
    | (go_at_call 9; refine (make_rr A c l from_ _ HR1.out (by omega) hf).mono ?_; rintro e w2 ⟨B, d, R, rfl, hRl, hrr, hcon, hb⟩; have HB2 := Lib.hid (HB1.out.trans (hb.mono HB1.out.size)); have HR2 := Lib.hid (HR1.out.later hb); have HR1' := HR1; clear HR1; have HRR2 := Lib.hid hrr; have HC := Lib.hid hcon; clear hrr hcon hb hRl)
    | (go_at_call 11; refine (sview_rr B d R _ HRR2.out).mono ?_; rintro e w3 ⟨B3, d3, rfl, hrr, hb⟩; have HB3 := Lib.hid (HB2.out.trans (hb.mono HB2.out.size)); have HR3 := Lib.hid (HR2.out.later hb); have HRR3 := Lib.hid (HRR2.out.later hb); have HV3 := Lib.hid hrr; clear hrr hb)
    | (go_at_call 12; refine (lview_rr B d R _ HRR3.out).mono ?_; rintro e w4 ⟨B4, d4, rfl, hrr, hb⟩; have HB4 := Lib.hid (HB3.out.trans (hb.mono HB3.out.size)); have HR4 := Lib.hid (HR3.out.later hb); have HRR4 := Lib.hid (HRR3.out.later hb); have HV4 := Lib.hid (HV3.out.later hb); have HW4 := Lib.hid hrr; clear hrr hb)
    | (go_at_call 10; refine (same_rr B3 B4 d3 d4 (vw R) (vw R) _ HV4.out HW4.out).mono ?_; rintro e w5 ⟨rfl, n5, rfl⟩; have hd5 : decide ((vw R).map Rc.con = (vw R).map Rc.con) = true := decide_eq_true rfl; have HB5 := Lib.hid (below_drewN HB4.out n5); have HR5 := Lib.hid (HR4.out.later (below_drewN (Below.refl _ _) n5)); have HRR5 := Lib.hid (HRR4.out.dn n5); clear HV4)
    | (go_at_call 9; refine (make_rr A c l from_ _ HR5.out (by omega) hf).mono ?_; rintro e w6 ⟨B6, d6, R6, rfl, hRl, hrr, hcon, hb⟩; have HB6 := Lib.hid (HB5.out.trans (hb.mono HB5.out.size)); have HRR6 := Lib.hid (HRR5.out.later hb); have HM6 := Lib.hid hrr; have HC6 := Lib.hid hcon; clear hrr hcon hb hRl)
    | (go_at_call 10; refine (same_rr B B6 d d6 R R6 _ HRR6.out HM6.out).mono ?_; rintro e w7 ⟨rfl, n7, rfl⟩; have hd7 : decide (R.map Rc.con = R6.map Rc.con) = true := decide_eq_true (HC.out.trans HC6.out.symm); have HB7 := Lib.hid (below_drewN HB6.out n7)))
  go_ret
  exact ⟨rfl, HB7.out⟩
theorem stageViews_true (A : Option Addr) (len c : Nat) (from_ : Int) (w : World)
    (h : len ≤ maxLen ∧ ∀ i, i < len → ∃ x, A = some x ∧ ∃ (c0 c1 c2 : Int), w.cell? (x.add (i * 3 + 0)) = some (.int .u8 c0) ∧ w.cell? (x.add (i * 3 + 1)) = some (.int .i8 c1) ∧ w.cell? (x.add (i * 3 + 2)) = some (.int .u8 c2) ∧
      (Lit.int .u8 c0).wf = true ∧ (Lit.int .i8 c1).wf = true ∧ (Lit.int .u8 c2).wf = true) (hf : (Lit.int .u16 from_).wf = true) :
    Calls Try.prog 3 #[.slice A len c, .int .u16 from_] w fun e w' => e = .returned (.bool true) ∧ Below w.heap.size w w' := by
  obtain ⟨l, rfl, ra⟩ := argI_of h
  have hf' := u16_in_ hf
  obtain ⟨f, rfl⟩ := Int.eq_ofNat_of_zero_le hf'.1
  exact views_walk A c l f w ra (by omega)
end Go.Proofs.Ytnmmhkggojnlpaa
