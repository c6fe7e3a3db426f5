/- The walk of StageBatches. No further condition. -/
import Derived.Test.YtnmmhkggojnlpaaSt8
namespace Go.Proofs.Ytnmmhkggojnlpaa
open Go.RowKit

def hasS (q : Int) (l : List Rc) : Bool := l.any fun s => s.seq == q
theorem hasS_snoc (q : Int) {l : List Rc} {k : Nat} {s : Rc} (h : l[k]? = some s) : hasS q (l.take (k + 1)) = (hasS q (l.take k) || (s.seq == q)) := by
  rw [take_snoc_pk h]
  simp [hasS]
theorem hasS_at {q : Int} {l : List Rc} {k : Nat} {s : Rc} (h : l[k]? = some s) (hs : s.seq = q) : hasS q l = true := by
  unfold hasS
  rw [List.any_eq_true]
  exact ⟨s, List.mem_of_getElem? h, by simp [hs]⟩
set_option maxHeartbeats 1600000 in
theorem cl_ok (s : Rc) (g : Nat) (r : Rc) (w : World) (hb : Blk w g 35 (rca r)) :
    Calls Try.prog 16 #[.agg #[.int .u64 s.seq, .int .i64 s.kind, .int .i64 s.lba, .slice s.A s.raw.length s.c], .pointer (some ⟨g, 0, none⟩)] w fun e w' => e = .returned (.bool (s.seq == r.seq)) ∧ Below w.heap.size w w' := by
  have c0 := (hb.alloc (.cells #[.int .u64 s.seq, .int .i64 s.kind, .int .i64 s.lba, .slice s.A s.raw.length s.c] 35)).at_ (i := 0) (u := .int .u64 r.seq) rfl
  have c1 := hb.at_ (i := 0) (u := .int .u64 r.seq) rfl
  clear hb
  go_enter Try.func16, Try.ntmps16
  go_wp2
  go_ret
  exact ⟨rfl, (Below.refl _ _).alloc (Nat.le_refl _) _⟩
set_option maxRecDepth 100000 in
set_option maxHeartbeats 3200000 in
theorem index_ok (A : Option Addr) (c : Nat) (l : List Rc) (g : Nat) (r : Rc) (w : World) (ra : Rd w A (rcs l)) (hl : l.length ≤ 1000000) (hb : Blk w g 35 (rca r)) :
    Calls Try.prog 18 #[.slice A l.length c, .func (.func 16) #[] #[.pointer (some ⟨g, 0, none⟩)]] w fun e w' => ∃ i : Int, e = .returned (.int .i64 i) ∧ decide (0 ≤ i) = hasS r.seq l ∧ Below w.heap.size w w' := by
  have HRA := Lib.hid ra
  have HBK := Lib.hid hb
  clear ra hb
  go_enter Try.func18, Try.ntmps18
  go_wp2
  go_loopw [5, 8] (fun _ i wr => ∃ k : Nat, k ≤ l.length ∧ i = .int .i64 k ∧ hasS r.seq (l.take k) = false ∧ Below w.heap.size w wr) (fun _ i _ => l.length - (intOf i).toNat)
  case atStart => exact ⟨0, by omega, rfl, rfl, Below.refl _ _⟩
  case round =>
    obtain ⟨k, hk, rfl, hn, hB⟩ := hrel
    have hbs := hB.size
    by_cases hlt : k < l.length
    · obtain ⟨s, hs⟩ : ∃ s, l[k]? = some s := ⟨_, List.getElem?_eq_getElem hlt⟩
      obtain ⟨y, rfl, c0, c1, c2, c3⟩ := rd_at (HRA.out.later hB) hs
      have g1 : (k : Int) < l.length := by omega
      have HBr := Lib.hid (HBK.out.later hB)
      have HS := Lib.hid hs
      have HN := Lib.hid hn
      have HB := Lib.hid hB
      clear hs hn hB
      rcases hq : (s.seq == r.seq) with _ | _
      all_goals
        go_wp2_with (go_at_call 16; refine (cl_ok s g r _ HBr.out).mono ?_; rintro e w2 ⟨rfl, hb2⟩; rw [hq]; have HB2 := Lib.hid (HB.out.trans (hb2.mono hbs)); clear hb2)
      · go_roundw
        case rel => exact ⟨k + 1, by omega, by go_num, by rw [hasS_snoc _ HS.out, HN.out, hq]; rfl, HB2.out⟩
        case measure => simp [intOf]; omega
      · go_ret
        exact ⟨k, rfl, by rw [hasS_at HS.out (by simpa using hq)]; simp, HB2.out⟩
    · obtain rfl : k = l.length := by omega
      rw [List.take_length] at hn
      go_wp2
      go_ret
      exact ⟨-1, rfl, by rw [hn]; rfl, hB⟩
theorem cont_ok (A : Option Addr) (c : Nat) (l : List Rc) (g : Nat) (r : Rc) (w : World) (ra : Rd w A (rcs l)) (hl : l.length ≤ 1000000) (hb : Blk w g 35 (rca r)) :
    Calls Try.prog 15 #[.slice A l.length c, .func (.func 16) #[] #[.pointer (some ⟨g, 0, none⟩)]] w fun e w' => e = .returned (.bool (hasS r.seq l)) ∧ Below w.heap.size w w' := by
  have HIX := Lib.hid (index_ok A c l g r w ra hl hb)
  clear ra hb
  go_enter Try.func15, Try.ntmps15
  go_wp2_with (go_at_call 18; refine HIX.out.mono ?_; rintro e w2 ⟨i, rfl, hi, hb2⟩; have HI := Lib.hid hi; clear hi)
  go_ret
  exact ⟨by rw [← HI.out]; rfl, hb2⟩

/-! ### what lies in a batch -/
theorem rise_seq {l : List Rc} (h : Rise l) {i j : Nat} {a b : Rc} (hi : l[i]? = some a) (hj : l[j]? = some b) (e : a.seq = b.seq) : i = j := by
  obtain ⟨h1, rfl⟩ := List.getElem?_eq_some_iff.1 hi
  obtain ⟨h2, rfl⟩ := List.getElem?_eq_some_iff.1 hj
  unfold Rise at h
  rw [List.pairwise_iff_getElem] at h
  rcases Nat.lt_trichotomy i j with q | q | q
  · have := h i j h1 h2 q; omega
  · exact q
  · have := h j i h2 h1 q; omega
theorem vw_iff : ∀ {l : List Rc}, Rise l → ∀ {i : Nat} {r : Rc}, l[i]? = some r → (r ∈ vw l ↔ hasL r.lba (l.drop (i + 1)) = false) := by
  intro l
  induction l with
  | nil => intro _ i r h; simp at h
  | cons a l ih =>
    intro h i r hi
    obtain ⟨h1, h2⟩ := List.pairwise_cons.1 h
    have hne : ∀ r ∈ l, r ≠ a := fun r hr e => by have := h1 r hr; rw [e] at this; omega
    rw [List.drop_succ_cons]
    cases i with
    | zero =>
      simp at hi
      subst hi
      rw [List.drop_zero]
      rw [show ∀ z, vw (z :: l) = if hasL z.lba l then vw l else z :: vw l from fun _ => rfl]
      split
      · rename_i hh
        rw [hh]
        exact ⟨fun hm => absurd rfl (hne _ (vw_sub l _ hm)), fun e => by cases e⟩
      · rename_i hh
        exact ⟨fun _ => by simpa using hh, fun _ => List.mem_cons_self⟩
    | succ i =>
      rw [List.getElem?_cons_succ] at hi
      rw [← ih h2 hi]
      rw [show vw (a :: l) = if hasL a.lba l then vw l else a :: vw l from rfl]
      split
      · exact Iff.rfl
      · exact ⟨fun hm => by
          rcases List.mem_cons.1 hm with e | hm
          · exact absurd e (hne r (List.mem_of_getElem? hi))
          · exact hm, fun hm => List.mem_cons_of_mem _ hm⟩
theorem bt_iff {l : List Rc} (h : Rise l) {m : Int} {i : Nat} {r : Rc} (hi : l[i]? = some r) (hr : r.seq ≤ ups l m) (hb : bt l m ≠ []) : hasS r.seq (bt l m) = !hasL r.lba (l.drop (i + 1)) := by
  have hcat : bt l m ++ (vw l).drop (mxI m 0).toNat = vw l := List.take_append_drop _ _
  have hv : Rise (bt l m ++ (vw l).drop (mxI m 0).toNat) := by rw [hcat]; exact List.Pairwise.sublist (vw_sublist l) h
  obtain ⟨b0, z, hz⟩ : ∃ b0 z, bt l m = b0 ++ [z] := by
    rcases (bt l m).eq_nil_or_concat with h | ⟨b0, r, h⟩
    · exact absurd h hb
    · exact ⟨b0, r, by simpa using h⟩
  have hu : ups l m = z.seq := by unfold ups; rw [hz]; simp
  rcases hh : hasL r.lba (l.drop (i + 1)) with _ | _
  · have hm := (vw_iff h hi).2 hh
    rw [← hcat] at hm
    rcases List.mem_append.1 hm with hm | hm
    · obtain ⟨k, hk⟩ := List.getElem?_of_mem hm
      exact hasS_at hk rfl
    · have := (List.pairwise_append.1 hv).2.2 z (by rw [hz]; simp) r hm
      omega
  · rcases hs : hasS r.seq (bt l m) with _ | _
    · rfl
    · exfalso
      unfold hasS at hs
      rw [List.any_eq_true] at hs
      obtain ⟨s, hs, hse⟩ := hs
      have hsl := bt_mem s hs
      obtain ⟨j, hj⟩ := List.getElem?_of_mem hsl
      obtain rfl := rise_seq h hj hi (by simpa using hse)
      rw [hi] at hj
      injection hj with hj
      subst hj
      have hm : r ∈ vw l := by rw [← hcat]; exact List.mem_append_left _ hs
      rw [vw_iff h hi, hh] at hm
      cases hm
attribute [local go_sem] go_max2 go_min2 go_max_two go_min_two
theorem ups_snoc {l : List Rc} {m : Int} {b0 : List Rc} {z : Rc} (h : bt l m = b0 ++ [z]) : ups l m = z.seq := by unfold ups; rw [h]; simp
set_option maxRecDepth 100000 in
set_option maxHeartbeats 6400000 in
theorem batches_walk (A0 : Option Addr) (c0 : Nat) (l : List Im) (from_ : Nat) (x : Int) (w : World) (ra : ArgI w A0 l) (hf : from_ < 65536) (x0 : -128 ≤ x) (x1 : x ≤ 127) :
    Calls Try.prog 7 #[.slice A0 l.length c0, .int .u16 from_, .int .i8 x] w fun e w' => e = .returned (.bool true) ∧ Below w.heap.size w w' := by
  have ha := awake_ok w
  by_cases hlong : 60 < l.length
  · go_enter Try.func7, Try.ntmps7
    go_wp2_with (go_at_call 8; refine ha.mono ?_; rintro e w1 ⟨rfl, hb1⟩)
    go_ret
    exact ⟨rfl, hb1⟩
  have hfew : l.length ≤ 60 := by omega
  have HAW := Lib.hid ha
  have HRA := Lib.hid ra
  clear hlong ha ra
  go_enter Try.func7, Try.ntmps7
  go_upto_region 11 with (first
    | (go_at_call 8; refine HAW.out.mono ?_; rintro e w1 ⟨rfl, hb1⟩; have HB1 := Lib.hid hb1; have HR1 := Lib.hid (HRA.out.later hb1); clear hb1)
    | (go_at_call 9; refine (make_rr A0 c0 l from_ _ HR1.out (by omega) hf).mono ?_; rintro e w2 ⟨B, d, R, rfl, hRl, hrr, hcon, hb⟩; have HB2 := Lib.hid (HB1.out.trans (hb.mono HB1.out.size)); have HRR2 := Lib.hid hrr; have HRI := Lib.hid (rise_make hcon); clear hrr hcon hb hRl)
    | (go_at_call 14; have hbr := batch_rr B d R x _ HRR2.out; obtain ⟨b, hb⟩ : ∃ b, b = bt R x := ⟨_, rfl⟩; obtain ⟨u, hu⟩ : ∃ u, u = ups R x := ⟨_, rfl⟩; rw [← hb, ← hu] at hbr; have HE := Lib.hid hb; have HU := Lib.hid hu; clear hb hu; refine hbr.mono ?_; clear hbr; rintro e w3 ⟨D, e3, rfl, hrr, hb⟩; have HB3 := Lib.hid (HB2.out.trans (hb.mono HB2.out.size)); have HRR3 := Lib.hid (HRR2.out.later hb); have HD3 := Lib.hid hrr; clear hrr hb)
    | (go_at_call 12; refine (lview_rr B d R _ HRR3.out).mono ?_; rintro e w4 ⟨B4, d4, rfl, hrr, hb⟩; have HB4 := Lib.hid (HB3.out.trans (hb.mono HB3.out.size)); have HRR4 := Lib.hid (HRR3.out.later hb); have HD4 := Lib.hid (HD3.out.later hb); have HV4 : Hid (RR w4 B4 d4 b) := Lib.hid (by rw [HE.out]; exact hrr.take (mxI x 0).toNat);
        have hcl := (fun (hz : mnI (vw R).length (mxI x 0) = (b.length : Int)) (W : World) => cut_lo_ 25 4 (by kernel_rfl) (fun _ => by kernel_rfl) B4 (vw R).length d4 b.length (mnI (vw R).length (mxI x 0)) hz (HV4.out.cap) W) (by
          have hmx : 0 ≤ mxI x 0 := by unfold mxI; split <;> omega
          rw [HE.out]
          unfold bt
          rw [List.length_take]
          unfold mnI
          split <;> omega);
        clear hrr hb)
    | (go_at_call 10; refine (same_rr D B4 e3 d4 b b _ HD4.out HV4.out).mono ?_; rintro e w5 ⟨rfl, n5, rfl⟩; have hd5 : decide (b.map Rc.con = b.map Rc.con) = true := decide_eq_true rfl; have HB5 := Lib.hid (below_drewN HB4.out n5); have HRR5 := Lib.hid (HRR4.out.dn n5); have HD5 := Lib.hid (HD4.out.dn n5); have HV5 := Lib.hid (HV4.out.dn n5)))
  rcases b.eq_nil_or_concat with hbr | ⟨b0, z, hbr⟩
  · subst hbr
    obtain rfl : u = 0 := by rw [HU.out]; unfold ups; rw [← HE.out]; rfl
    go_wp2
    go_ret
    exact ⟨rfl, HB5.out⟩
  · try rw [List.concat_eq_append] at hbr
    have hu : u = z.seq := by rw [HU.out]; exact ups_snoc (by rw [← HE.out]; exact hbr)
    have hlen : b.length = b0.length + 1 := by rw [hbr]; simp
    have hbt : b ≠ [] := by rw [hbr]; simp
    obtain ⟨y, rfl, c0, c1, c2, c3⟩ := rd_at HV5.out.rd (i := b0.length) (r := z) (by rw [hbr]; simp)
    have hfb := HD5.out.few
    have HIF : Hid (∀ i r, R[i]? = some r → r.seq ≤ u → hasS r.seq b = !hasL r.lba (R.drop (i + 1))) := Lib.hid fun i r hi hr => by rw [HE.out]; exact bt_iff HRI.out hi (by rw [← HU.out]; exact hr) (by rw [← HE.out]; exact hbt)
    rw [← hu] at c0
    rw [hlen]
    have g1 : (b0.length : Int) < (b0.length : Int) + 1 := by omega
    have hfw : b0.length ≤ 1000 := by omega
    have HLE := Lib.hid hlen
    clear hu hbr hlen hbt hfb
    have hz0 : ((b0.length : Int) + 1 == 0) = false := by
      rw [beq_eq_false_iff_ne]
      omega
    generalize w4.drewN n5 = W0 at HB5 HRR5 HD5 HV5 c0 c1 c2 c3 ⊢
    go_wp2
    go_loopw [11, 12, 13, 15, 16, 62] (fun _ _ _ _ _ i wr => ∃ k : Nat, k ≤ R.length ∧ i = .int .i64 k ∧ Below W0.heap.size W0 wr) (fun _ _ _ _ _ i _ => R.length - (intOf i).toNat)
    case atStart => exact ⟨0, by omega, rfl, Below.refl _ _⟩
    case round =>
      clear c0 c1 c2 c3
      obtain ⟨k, hk, rfl, hB⟩ := hrel
      obtain ⟨wo, hwo⟩ : ∃ wo, wo = wr := ⟨wr, rfl⟩
      subst hwo
      have HRo := Lib.hid (HRR5.out.later hB)
      have HDo := Lib.hid (HD5.out.later hB)
      have HBo : Hid (Below w.heap.size w wo) := Lib.hid (HB5.out.trans (hB.mono HB5.out.size))
      have hbo := HBo.out.size
      have hbs := hB.size
      have hfR := HRo.out.few
      have HBx := Lib.hid hB
      clear hB
      by_cases hlt : k < R.length
      · obtain ⟨r, hr⟩ : ∃ r, R[k]? = some r := ⟨_, List.getElem?_eq_getElem hlt⟩
        obtain ⟨a, ha, c0, c1, c2, c3⟩ := rd_at HRo.out.rd hr
        obtain ⟨Bc, hB1, hB2, hsl⟩ := cut_row HRo.out.form HRo.out.rd HRo.out.cap (show k + 1 ≤ R.length by omega)
        have hsl1 := hsl ((k : Int) + 1) (by omega)
        subst ha
        have g2 : (k : Int) < R.length := by omega
        have HR := Lib.hid hr
        have HRB := Lib.hid hB2
        have HIR := Lib.hid (HIF.out k r hr)
        have hdl : (R.drop (k + 1)).length = R.length - (k + 1) := List.length_drop
        obtain ⟨m, hm⟩ : ∃ m, m = R.drop (k + 1) := ⟨_, rfl⟩
        rw [← hm] at HRB hdl HIR
        clear hr hB1 hB2 hsl hm
        go_wp2
        go_loopw [13, 15, 72] (fun b _ i wi => ∃ j : Nat, j ≤ m.length ∧ i = .int .i64 j ∧ b = .bool (!hasL r.lba (m.take j)) ∧ Below (wo.heap.size + 1) (wo.alloc (.cells #[.int .u64 r.seq, .int .i64 r.kind, .int .i64 r.lba, .slice r.A r.raw.length r.c] 35)) wi) (fun _ _ i _ => m.length - (intOf i).toNat)
        case atStart => exact ⟨0, by omega, rfl, rfl, Below.refl _ _⟩
        case round =>
          obtain ⟨j, hj, rfl, rfl, hBi⟩ := hrel
          have hbi := (Blk.new wo 35 #[.int .u64 r.seq, .int .i64 r.kind, .int .i64 r.lba, .slice r.A r.raw.length r.c]).below hBi (by simp)
          by_cases hjl : j < m.length
          · obtain ⟨s, hs⟩ : ∃ s, m[j]? = some s := ⟨_, List.getElem?_eq_getElem hjl⟩
            obtain ⟨y, rfl, d0, d1, d2, d3⟩ := rd_at ((HRB.out.alloc (.cells #[.int .u64 r.seq, .int .i64 r.kind, .int .i64 r.lba, .slice r.A r.raw.length r.c] 35)).later (hBi.mono (by simp))) hs
            have q2 := (hbi.alloc (.cells #[.int .u64 s.seq, .int .i64 s.kind, .int .i64 s.lba, .slice s.A s.raw.length s.c] 35)).at_ (i := 2) rfl
            have HSN := Lib.hid (hasL_snoc r.lba hs)
            have g2 : (j : Int) < m.length := by omega
            have g3 : (j : Int) < ((R.length - (k + 1) : Nat) : Int) := by omega
            have HBI := Lib.hid hBi
            clear hs hBi hbi
            rcases hb : hasL r.lba (m.take j) with _ | _
            all_goals rw [hb] at HSN
            all_goals clear hb
            · rcases hsl : (s.lba == r.lba) with _ | _
              all_goals
                have hd : (s.lba != r.lba) = !(s.lba == r.lba) := rfl
                rw [hsl] at hd HSN
                clear hsl
                go_wp2
                go_roundw
                case rel => exact ⟨j + 1, by omega, by go_num, by rw [HSN.out]; first | rfl | simp, HBI.out.alloc (Nat.le_trans (by simp) HBI.out.size) _⟩
                case measure => simp [intOf]; omega
            · go_wp2
              go_roundw
              case rel => exact ⟨j + 1, by omega, by go_num, by rw [HSN.out]; first | rfl | simp, HBI.out.alloc (Nat.le_trans (by simp) HBI.out.size) _⟩
              case measure => simp [intOf]; omega
          · obtain rfl : j = m.length := by omega
            have HBI := Lib.hid hBi
            have HBK := Lib.hid hbi
            obtain ⟨q0, q1, q2, q3⟩ : wr.cell? ⟨wo.heap.size, 0, none⟩ = some (.int .u64 r.seq) ∧ wr.cell? ⟨wo.heap.size, 1, none⟩ = some (.int .i64 r.kind) ∧ wr.cell? ⟨wo.heap.size, 2, none⟩ = some (.int .i64 r.lba) ∧ wr.cell? ⟨wo.heap.size, 3, none⟩ = some (.slice r.A r.raw.length r.c) := ⟨hbi.at_ rfl, hbi.at_ rfl, hbi.at_ rfl, hbi.at_ rfl⟩
            have HBW : Hid (Below W0.heap.size W0 wr) := Lib.hid ((HBx.out.alloc hbs _).trans (hBi.mono (by omega)))
            have hBw := HBW.out.size
            have HDw : Hid (RR wr D e3 b) := Lib.hid (HD5.out.later HBW.out)
            have hfb := HDw.out.few
            have hco := cont_ok D e3 b wo.heap.size r wr HDw.out.rd (by omega) hbi
            rw [HLE.out] at hco
            have HCO := Lib.hid hco
            clear hBi hbi hco
            rw [List.take_length]
            have hmf : ∀ (fn : Fn) (first cap : Array Value) (w : World), (Instr.makeFunc fn first cap).run Try.prog w = .ok (.func fn first cap) w := fun _ _ _ _ => rfl
            by_cases hle : r.seq ≤ u
            · have hin := HIR.out hle
              generalize hasL r.lba m = p at hin ⊢
              go_wp2_with (go_at_call 15; refine HCO.out.mono ?_; rintro e w7 ⟨rfl, hb7⟩; rw [hin]; have HB7 := Lib.hid (HBW.out.trans (hb7.mono hBw)); have z0 := (HBK.out.later hb7).at_ (i := 0) (u := .int .u64 r.seq) rfl; clear hb7)
              go_roundw
              case rel => exact ⟨k + 1, by omega, by go_num, HB7.out⟩
              case measure => simp [intOf]; omega
            · have hgt : u < r.seq := by omega
              go_wp2_with (go_at_call 15; refine HCO.out.mono ?_; rintro e w7 ⟨rfl, hb7⟩; have HB7 := Lib.hid (HBW.out.trans (hb7.mono hBw)); have z0 := (HBK.out.later hb7).at_ (i := 0) (u := .int .u64 r.seq) rfl; clear hb7)
              go_roundw
              case rel => exact ⟨k + 1, by omega, by go_num, HB7.out⟩
              case measure => simp [intOf]; omega
      · obtain rfl : k = R.length := by omega
        go_wp2
        go_ret
        exact ⟨rfl, HBo.out⟩
theorem stageBatches_true (A : Option Addr) (len c : Nat) (from_ x : Int) (w : World)
    (h : len ≤ maxLen ∧ ∀ i, i < len → ∃ x, A = some x ∧ ∃ (c0 c1 c2 : Int), w.cell? (x.add (i * 3 + 0)) = some (.int .u8 c0) ∧ w.cell? (x.add (i * 3 + 1)) = some (.int .i8 c1) ∧ w.cell? (x.add (i * 3 + 2)) = some (.int .u8 c2) ∧
      (Lit.int .u8 c0).wf = true ∧ (Lit.int .i8 c1).wf = true ∧ (Lit.int .u8 c2).wf = true) (hf : (Lit.int .u16 from_).wf = true) (hx : (Lit.int .i8 x).wf = true) :
    Calls Try.prog 7 #[.slice A len c, .int .u16 from_, .int .i8 x] w fun e w' => e = .returned (.bool true) ∧ Below w.heap.size w w' := by
  obtain ⟨l, rfl, ra⟩ := argI_of h
  have hf' := u16_in_ hf
  have hx' := i8_in_ hx
  obtain ⟨f, rfl⟩ := Int.eq_ofNat_of_zero_le hf'.1
  exact batches_walk A c l f x w ra (by omega) hx'.1 hx'.2
end Go.Proofs.Ytnmmhkggojnlpaa
