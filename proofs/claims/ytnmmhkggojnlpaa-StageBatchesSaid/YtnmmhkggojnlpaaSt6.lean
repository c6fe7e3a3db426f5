/- The walks of StageFinds and StageAgain. No further condition. -/
import Derived.Test.YtnmmhkggojnlpaaSt5
namespace Go.Proofs.Ytnmmhkggojnlpaa
open Go.RowKit

abbrev rca (r : Rc) : Array Value := #[.int .u64 r.seq, .int .i64 r.kind, .int .i64 r.lba, .slice r.A r.raw.length r.c]
structure Ok1 (w : World) (r : Rc) : Prop where
  rd : Rd w r.A (byv r.raw)
  wf : (Lit.int .i64 r.lba).wf = true
  raw : r.raw.length ≤ 1000
theorem Ok1.later {w w' : World} {r : Rc} (k : Ok1 w r) (h : Below w.heap.size w w') : Ok1 w' r := ⟨k.rd.later h, k.wf, k.raw⟩
theorem RR.ok1 {w : World} {A : Option Addr} {c : Nat} {l : List Rc} (k : RR w A c l) {r : Rc} (h : r ∈ l) : Ok1 w r := ⟨k.hd r h, k.wf r h, k.raw r h⟩
theorem RR.found {w : World} {A : Option Addr} {c : Nat} {l : List Rc} (k : RR w A c l) (x : Int) : Ok1 w ((fnd x l).getD rc0) := by
  rcases h : fnd x l with _ | r
  · exact ⟨Rd.nil _ _, by decide, by decide⟩
  · exact k.ok1 (fnd_mem l h).1
theorem RR.one {w : World} {g : Nat} {r : Rc} (hb : Blk w g 35 (rca r)) (k : Ok1 w r) : RR w (some ⟨g, 0, none⟩) 1 [r] where
  rd := by
    have : rcs [r] = (rca r).toList := rfl
    rw [this]
    exact Rd.blk_all hb
  hd := fun q hq => by simp at hq; subst hq; exact k.rd
  form := fun ad e => ⟨g, 0, (Option.some.inj e).symm⟩
  cap := by simp
  few := by simp
  wf := fun q hq => by simp at hq; subst hq; exact k.wf
  raw := fun q hq => by simp at hq; subst hq; exact k.raw
theorem find_rr (A : Option Addr) (c : Nat) (l : List Rc) (x : Int) (w : World) (k : RR w A c l) :
    Calls Try.prog 13 #[.slice A l.length c, .int .i64 x] w fun e w' => ∃ r, r = (fnd x l).getD rc0 ∧ e = .returned (.tuple #[.agg (rca r), .bool (fnd x l).isSome]) ∧ Ok1 w' r ∧ Below w.heap.size w w' := by
  refine (find_ok A c l x w k.rd (by have := k.few; omega)).mono ?_
  rintro e w' ⟨⟨r, rfl, rfl⟩, hb⟩
  exact ⟨_, rfl, rfl, (k.found x).later hb, hb⟩
theorem Ok1.alloc {w : World} {r : Rc} (k : Ok1 w r) (o : Obj) : Ok1 (w.alloc o) r := k.later ((Below.refl _ _).alloc (Nat.le_refl _) o)
theorem same_two (W : World) (g : Nat) (r r' : Rc) (hg : W.heap.size = g) (k1 : Ok1 W r) (k2 : Ok1 W r') :
    Calls Try.prog 10 #[.slice (some ⟨g, 0, none⟩) 1 1, .slice (some ⟨g + 1, 0, none⟩) 1 1] ((W.alloc (.cells #[.int .u64 r.seq, .int .i64 r.kind, .int .i64 r.lba, .slice r.A r.raw.length r.c] 35)).alloc (.cells #[.int .u64 r'.seq, .int .i64 r'.kind, .int .i64 r'.lba, .slice r'.A r'.raw.length r'.c] 35))
      fun e w' => e = .returned (.bool (decide (r.con = r'.con))) ∧ ∃ n, w' = ((W.alloc (.cells #[.int .u64 r.seq, .int .i64 r.kind, .int .i64 r.lba, .slice r.A r.raw.length r.c] 35)).alloc (.cells #[.int .u64 r'.seq, .int .i64 r'.kind, .int .i64 r'.lba, .slice r'.A r'.raw.length r'.c] 35)).drewN n := by
  refine (same_rr (some ⟨g, 0, none⟩) (some ⟨g + 1, 0, none⟩) 1 1 [r] [r'] _ (RR.one ((Blk.new_ _ _ _ hg).alloc _) ((k1.alloc _).alloc _)) (RR.one (Blk.new_ _ _ _ (by simp [hg])) ((k2.alloc _).alloc _))).mono ?_
  rintro e w' ⟨rfl, h⟩
  refine ⟨?_, h⟩
  have : ([r].map Rc.con = [r'].map Rc.con) ↔ r.con = r'.con := by simp
  simp only [this]
set_option maxRecDepth 100000 in
set_option maxHeartbeats 6400000 in
theorem finds_walk (A : Option Addr) (c : Nat) (l : List Im) (x : Int) (w : World) (ra : ArgI w A l) (x0 : -128 ≤ x) (x1 : x ≤ 127) :
    Calls Try.prog 4 #[.slice A l.length c, .int .i8 x] w fun e w' => e = .returned (.bool true) ∧ Below w.heap.size w w' := by
  have ha := awake_ok w
  by_cases hlong : 60 < l.length
  · go_enter Try.func4, Try.ntmps4
    go_wp2_with (go_at_call 8; refine ha.mono ?_; rintro e w1 ⟨rfl, hb1⟩)
    go_ret
    exact ⟨rfl, hb1⟩
  have hfew : l.length ≤ 60 := by omega
  have HAW := Lib.hid ha
  have HRA := Lib.hid ra
  clear hlong ha ra
  go_enter Try.func4, Try.ntmps4
  go_wp2_with (first
    | (go_at_call 8; refine HAW.out.mono ?_; rintro e w1 ⟨rfl, hb1⟩; have HB1 := Lib.hid hb1; have HR1 := Lib.hid (HRA.out.later hb1); clear hb1)
    | (go_at_call 9; refine (make_rr1 A c l _ HR1.out (by omega)).mono ?_; rintro e w2 ⟨B, d, R, rfl, hRl, hrr, hcon, hb⟩; have HB2 := Lib.hid (HB1.out.trans (hb.mono HB1.out.size)); have HRR2 := Lib.hid hrr; clear hrr hcon hb hRl)
    | (go_at_call 13; refine (find_rr B d R x _ HRR2.out).mono ?_; rintro e w3 ⟨r0, hr0, rfl, hok, hb⟩; have HB3 := Lib.hid (HB2.out.trans (hb.mono HB2.out.size)); have HRR3 := Lib.hid ((HRR2.out.later hb).later ((Below.refl _ _).alloc (Nat.le_refl _) (.cells (rca r0) 35))); have HOK3 := Lib.hid (hok.later ((Below.refl _ _).alloc (Nat.le_refl _) (.cells (rca r0) 35))); have HBK3 := Lib.hid (Blk.new w3 35 (rca r0)); have HB3' := Lib.hid (HB3.out.alloc HB3.out.size (.cells (rca r0) 35)); have HE0 := Lib.hid hr0; clear hok hb hr0)
    | (go_at_call 12; refine (lview_rr B d R _ HRR3.out).mono ?_; rintro e w4 ⟨B4, d4, rfl, hrr, hb⟩; have HB4 := Lib.hid (HB3'.out.trans (hb.mono HB3'.out.size)); have HV4 := Lib.hid hrr; have HOK4 := Lib.hid (HOK3.out.later hb); have HBK4 := Lib.hid (HBK3.out.later hb); clear hrr hb))
  go_loopw [9, 27] (fun _ i wr => ∃ k : Nat, k ≤ (vw R).length ∧ i = .int .i64 k ∧ hasL x ((vw R).take k) = false ∧ Below w4.heap.size w4 wr) (fun _ i _ => (vw R).length - (intOf i).toNat)
  case atStart => exact ⟨0, by omega, rfl, rfl, Below.refl _ _⟩
  case round =>
    obtain ⟨k, hk, rfl, hh, hB⟩ := hrel
    have HVr := Lib.hid (HV4.out.later hB)
    have HOKr := Lib.hid (HOK4.out.later hB)
    have HBKr := Lib.hid (HBK4.out.later hB)
    have hbs := hB.size
    have HBr : Hid (Below w.heap.size w wr) := Lib.hid (HB4.out.trans (hB.mono HB4.out.size))
    have HBi := Lib.hid hB
    have hfw := HVr.out.few
    have hwv := HBr.out.size
    by_cases hlt : k < (vw R).length
    · obtain ⟨r, hr⟩ : ∃ r, (vw R)[k]? = some r := ⟨_, List.getElem?_eq_getElem hlt⟩
      obtain ⟨y, rfl, c0, c1, c2, c3⟩ := rd_at HVr.out.rd hr
      have g1 : (k : Int) < (vw R).length := by omega
      have HOr := Lib.hid (HVr.out.ok1 (List.mem_of_getElem? hr))
      have HS := Lib.hid (hasL_snoc x hr)
      by_cases hx : r.lba = x
      · have hfv : fnd x (vw R) = some r := fnd_at hr hx (by rw [← hx]; exact vw_last R k r hr)
        rw [fnd_vw] at hfv
        have hd : (r.lba == x) = true := by simp [hx]
        obtain rfl : r = r0 := by have := HE0.out; rw [hfv] at this; exact this.symm
        rw [hfv]
        clear hfv hr hh hB hx
        have q := HBKr.out.alloc (.cells #[.int .u64 r.seq, .int .i64 r.kind, .int .i64 r.lba, .slice r.A r.raw.length r.c] 35)
        obtain ⟨W, hW⟩ : ∃ W, W = wr.alloc (.cells #[.int .u64 r.seq, .int .i64 r.kind, .int .i64 r.lba, .slice r.A r.raw.length r.c] 35) := ⟨_, rfl⟩
        rw [← hW] at q
        obtain ⟨q0, q1, q2, q3⟩ : W.cell? ⟨w3.heap.size, 0, none⟩ = some (.int .u64 r.seq) ∧ W.cell? ⟨w3.heap.size, 1, none⟩ = some (.int .i64 r.kind) ∧ W.cell? ⟨w3.heap.size, 2, none⟩ = some (.int .i64 r.lba) ∧ W.cell? ⟨w3.heap.size, 3, none⟩ = some (.slice r.A r.raw.length r.c) := ⟨q.at_ rfl, q.at_ rfl, q.at_ rfl, q.at_ rfl⟩
        rw [hW] at q0 q1 q2 q3
        clear q hW W
        have HK := Lib.hid (HOr.out.alloc (.cells #[.int .u64 r.seq, .int .i64 r.kind, .int .i64 r.lba, .slice r.A r.raw.length r.c] 35))
        go_wp2_with (go_at_call 10; refine (same_two (wr.alloc (.cells #[.int .u64 r.seq, .int .i64 r.kind, .int .i64 r.lba, .slice r.A r.raw.length r.c] 35)) (wr.heap.size + 1) r r (by simp) HK.out HK.out).mono ?_; rintro e w7 ⟨rfl, n7, rfl⟩; have hd7 : decide (r.con = r.con) = true := decide_eq_true rfl)
        go_ret
        exact ⟨rfl, below_drewN (((HBr.out.alloc hwv _).alloc (by simp; omega) _).alloc (by simp; omega) _) n7⟩
      · have hd : (r.lba == x) = false := by simp [hx]
        have HS2 : Hid (hasL x ((vw R).take (k + 1)) = false) := Lib.hid (by rw [HS.out, hh, hd]; rfl)
        clear hr hh hB hx
        go_wp2
        go_roundw
        case rel => exact ⟨k + 1, by omega, by go_num, HS2.out, HBi.out.alloc hbs _⟩
        case measure => simp [intOf]; omega
    · obtain rfl : k = (vw R).length := by omega
      rw [List.take_length] at hh
      have hf := (fnd_none _).2 hh
      rw [fnd_vw] at hf
      obtain rfl : r0 = rc0 := by have := HE0.out; rw [hf] at this; exact this
      rw [hf]
      clear hf hh hB
      have q := HBKr.out
      obtain ⟨q0, q1, q2, q3⟩ : wr.cell? ⟨w3.heap.size, 0, none⟩ = some (.int .u64 0) ∧ wr.cell? ⟨w3.heap.size, 1, none⟩ = some (.int .i64 0) ∧ wr.cell? ⟨w3.heap.size, 2, none⟩ = some (.int .i64 0) ∧ wr.cell? ⟨w3.heap.size, 3, none⟩ = some (.slice none 0 0) := ⟨q.at_ rfl, q.at_ rfl, q.at_ rfl, q.at_ rfl⟩
      clear q
      have HK : Hid (Ok1 wr rc0) := Lib.hid ⟨Rd.nil _ _, by decide, by decide⟩
      go_wp2_with (go_at_call 10; refine (same_two wr wr.heap.size rc0 rc0 rfl HK.out HK.out).mono ?_; rintro e w7 ⟨rfl, n7, rfl⟩; have hd7 : decide (rc0.con = rc0.con) = true := decide_eq_true rfl)
      go_ret
      exact ⟨rfl, below_drewN ((HBr.out.alloc hwv _).alloc (by simp; omega) _) n7⟩
theorem stageFinds_true (A : Option Addr) (len c : Nat) (x : Int) (w : World)
    (h : len ≤ maxLen ∧ ∀ i, i < len → ∃ x, A = some x ∧ ∃ (c0 c1 c2 : Int), w.cell? (x.add (i * 3 + 0)) = some (.int .u8 c0) ∧ w.cell? (x.add (i * 3 + 1)) = some (.int .i8 c1) ∧ w.cell? (x.add (i * 3 + 2)) = some (.int .u8 c2) ∧
      (Lit.int .u8 c0).wf = true ∧ (Lit.int .i8 c1).wf = true ∧ (Lit.int .u8 c2).wf = true) (hf : (Lit.int .i8 x).wf = true) :
    Calls Try.prog 4 #[.slice A len c, .int .i8 x] w fun e w' => e = .returned (.bool true) ∧ Below w.heap.size w w' := by
  obtain ⟨l, rfl, ra⟩ := argI_of h
  have hf' := i8_in_ hf
  exact finds_walk A c l x w ra hf'.1 hf'.2
theorem find_vw (A : Option Addr) (c : Nat) (l : List Rc) (x : Int) (w : World) (k : RR w A c (vw l)) :
    Calls Try.prog 13 #[.slice A (vw l).length c, .int .i64 x] w fun e w' => ∃ r, r = (fnd x l).getD rc0 ∧ e = .returned (.tuple #[.agg (rca r), .bool (fnd x l).isSome]) ∧ Ok1 w' r ∧ Below w.heap.size w w' := by
  have := find_rr A c (vw l) x w k
  rw [fnd_vw] at this
  exact this
theorem sview_vw (A : Option Addr) (c : Nat) (l : List Rc) (w : World) (k : RR w A c (vw l)) :
    Calls Try.prog 11 #[.slice A (vw l).length c] w fun e w' => ∃ B d, e = .returned (.slice B (vw l).length d) ∧ RR w' B d (vw l) ∧ Below w.heap.size w w' := by
  have := sview_rr A c (vw l) w k
  rw [vw_vw] at this
  exact this
set_option maxRecDepth 100000 in
set_option maxHeartbeats 6400000 in
theorem again_walk (A : Option Addr) (c : Nat) (l : List Im) (x : Int) (w : World) (ra : ArgI w A l) (x0 : -128 ≤ x) (x1 : x ≤ 127) :
    Calls Try.prog 5 #[.slice A l.length c, .int .i8 x] w fun e w' => e = .returned (.bool true) ∧ Below w.heap.size w w' := by
  have ha := awake_ok w
  by_cases hlong : 60 < l.length
  · go_enter Try.func5, Try.ntmps5
    go_wp2_with (go_at_call 8; refine ha.mono ?_; rintro e w1 ⟨rfl, hb1⟩)
    go_ret
    exact ⟨rfl, hb1⟩
  have hfew : l.length ≤ 60 := by omega
  have HAW := Lib.hid ha
  have HRA := Lib.hid ra
  clear hlong ha ra
  go_enter Try.func5, Try.ntmps5
  go_wp2_with (first
    | (go_at_call 8; refine HAW.out.mono ?_; rintro e w1 ⟨rfl, hb1⟩; have HB1 := Lib.hid hb1; have HR1 := Lib.hid (HRA.out.later hb1); clear hb1)
    | (go_at_call 9; refine (make_rr1 A c l _ HR1.out (by omega)).mono ?_; rintro e w2 ⟨B, d, R, rfl, hRl, hrr, hcon, hb⟩; have HB2 := Lib.hid (HB1.out.trans (hb.mono HB1.out.size)); have HRR2 := Lib.hid hrr; clear hrr hcon hb hRl)
    | (go_at_call 11; refine (sview_rr B d R _ HRR2.out).mono ?_; rintro e w3 ⟨B3, d3, rfl, hrr, hb⟩; have HB3 := Lib.hid (HB2.out.trans (hb.mono HB2.out.size)); have HRR3 := Lib.hid (HRR2.out.later hb); have HV3 := Lib.hid hrr; clear hrr hb HRR2)
    | (go_at_call 13; refine (find_rr B d R x _ HRR3.out).mono ?_; rintro e w4 ⟨r0, hr0, rfl, hok, hb⟩; have HB4 := Lib.hid ((HB3.out.trans (hb.mono HB3.out.size)).alloc (Nat.le_trans HB3.out.size hb.size) (.cells (rca r0) 35)); have HV4 := Lib.hid ((HV3.out.later hb).later ((Below.refl _ _).alloc (Nat.le_refl _) (.cells (rca r0) 35))); have HOK4 := Lib.hid (hok.alloc (.cells (rca r0) 35)); have HBK4 := Lib.hid (Blk.new w4 35 (rca r0)); have HE0 := Lib.hid hr0; clear hok hb hr0 HRR3)
    | (go_at_call 13; refine (find_vw B3 d3 R x _ HV4.out).mono ?_; rintro e w5 ⟨r1, hr1, rfl, hok, hb⟩; obtain rfl : r1 = r0 := hr1.trans HE0.out.symm; have HB5 := Lib.hid ((HB4.out.trans (hb.mono HB4.out.size)).alloc (Nat.le_trans HB4.out.size hb.size) (.cells (rca r1) 35)); have HV5 := Lib.hid ((HV4.out.later hb).later ((Below.refl _ _).alloc (Nat.le_refl _) (.cells (rca r1) 35))); have HOK5 := Lib.hid (hok.alloc (.cells (rca r1) 35)); have HBK5 := Lib.hid (Blk.new w5 35 (rca r1)); have HBK5' := Lib.hid ((HBK4.out.later hb).alloc (.cells (rca r1) 35)); clear hok hb hr1)
    | (go_at_call 11; refine (sview_vw B3 d3 R _ HV5.out).mono ?_; rintro e w6 ⟨B6, d6, rfl, hrr, hb⟩; have HB6 := Lib.hid (HB5.out.trans (hb.mono HB5.out.size)); have HV6 := Lib.hid (HV5.out.later hb); have HW6 := Lib.hid hrr; have HOK6 := Lib.hid (HOK5.out.later hb); have HBK6 := Lib.hid (HBK5.out.later hb); have HBK6' := Lib.hid (HBK5'.out.later hb); clear hrr hb)
    | (go_at_call 10; refine (same_rr B6 B3 d6 d3 (vw R) (vw R) _ HW6.out HV6.out).mono ?_; rintro e w7 ⟨rfl, n7, rfl⟩; have hd7 : decide ((vw R).map Rc.con = (vw R).map Rc.con) = true := decide_eq_true rfl; have HB7 := Lib.hid (below_drewN HB6.out n7); have HOK7 := Lib.hid (HOK6.out.later (below_drewN (Below.refl _ _) n7)); clear HW6;
        obtain ⟨q0, q1, q2, q3⟩ : (w6.drewN n7).cell? ⟨w4.heap.size, 0, none⟩ = some (.int .u64 r1.seq) ∧ (w6.drewN n7).cell? ⟨w4.heap.size, 1, none⟩ = some (.int .i64 r1.kind) ∧ (w6.drewN n7).cell? ⟨w4.heap.size, 2, none⟩ = some (.int .i64 r1.lba) ∧ (w6.drewN n7).cell? ⟨w4.heap.size, 3, none⟩ = some (.slice r1.A r1.raw.length r1.c) := ⟨(HBK6'.out.drewN n7).at_ rfl, (HBK6'.out.drewN n7).at_ rfl, (HBK6'.out.drewN n7).at_ rfl, (HBK6'.out.drewN n7).at_ rfl⟩;
        have p0 := ((HBK6.out.drewN n7).alloc (.cells #[.int .u64 r1.seq, .int .i64 r1.kind, .int .i64 r1.lba, .slice r1.A r1.raw.length r1.c] 35)).at_ (i := 0) (u := .int .u64 r1.seq) rfl; have p1 := ((HBK6.out.drewN n7).alloc (.cells #[.int .u64 r1.seq, .int .i64 r1.kind, .int .i64 r1.lba, .slice r1.A r1.raw.length r1.c] 35)).at_ (i := 1) (u := .int .i64 r1.kind) rfl; have p2 := ((HBK6.out.drewN n7).alloc (.cells #[.int .u64 r1.seq, .int .i64 r1.kind, .int .i64 r1.lba, .slice r1.A r1.raw.length r1.c] 35)).at_ (i := 2) (u := .int .i64 r1.lba) rfl; have p3 := ((HBK6.out.drewN n7).alloc (.cells #[.int .u64 r1.seq, .int .i64 r1.kind, .int .i64 r1.lba, .slice r1.A r1.raw.length r1.c] 35)).at_ (i := 3) (u := .slice r1.A r1.raw.length r1.c) rfl)
    | (go_at_call 10; refine (same_two (w6.drewN n7) w6.heap.size r1 r1 rfl HOK7.out HOK7.out).mono ?_; rintro e w8 ⟨rfl, n8, rfl⟩; have hd8 : decide (r1.con = r1.con) = true := decide_eq_true rfl))
  go_ret
  have hb7 := HB7.out.size
  exact ⟨rfl, below_drewN ((HB7.out.alloc hb7 _).alloc (by simp; simp at hb7; omega) _) n8⟩
theorem stageAgain_true (A : Option Addr) (len c : Nat) (x : Int) (w : World)
    (h : len ≤ maxLen ∧ ∀ i, i < len → ∃ x, A = some x ∧ ∃ (c0 c1 c2 : Int), w.cell? (x.add (i * 3 + 0)) = some (.int .u8 c0) ∧ w.cell? (x.add (i * 3 + 1)) = some (.int .i8 c1) ∧ w.cell? (x.add (i * 3 + 2)) = some (.int .u8 c2) ∧
      (Lit.int .u8 c0).wf = true ∧ (Lit.int .i8 c1).wf = true ∧ (Lit.int .u8 c2).wf = true) (hf : (Lit.int .i8 x).wf = true) :
    Calls Try.prog 5 #[.slice A len c, .int .i8 x] w fun e w' => e = .returned (.bool true) ∧ Below w.heap.size w w' := by
  obtain ⟨l, rfl, ra⟩ := argI_of h
  have hf' := i8_in_ hf
  exact again_walk A c l x w ra hf'.1 hf'.2
end Go.Proofs.Ytnmmhkggojnlpaa
