/- The walk of NvPlays. No further condition. -/
import Derived.Test.YtgcmfcdbgimnjaaNvc
namespace Go.Proofs.Ytgcmfcdbgimnjaa
open Go.RowKit
attribute [local go_sem ↓] Go.wp_at_zero Go.wp_at_succ

set_option maxRecDepth 100000 in
set_option maxHeartbeats 12800000 in
theorem plays_walk (A : Option Addr) (c : Nat) (l0 : List Av) (w : World) (ra : Rd w A (acs l0)) (hok : ∀ x ∈ l0, AvOk w x) (hm : l0.length ≤ 9223372036854775807) :
    Calls Try.prog 5 #[.slice A l0.length c] w fun e w' => e = .returned (.bool true) ∧ Below w.heap.size w w' := by
  obtain ⟨i0, hi0, hz0, hz1, hz2⟩ := info_parts (show (Try.prog.info? 45).map (fun i => (i.zero, i.size, i.bytes)) = some (some (.agg #[.int .u64 0, .int .i64 0, .int .i64 0, .slice none 0 0]), 4, 48) by kernel_rfl)
  have HAW := Lib.hid (awake_ok w)
  by_cases hlong : 60 < l0.length
  · go_enter Try.func5, Try.ntmps5
    go_wp2_with (go_at_call 7; refine HAW.out.mono ?_; rintro e w1 ⟨rfl, hb1⟩)
    go_ret
    exact ⟨rfl, hb1⟩
  have hfew : l0.length ≤ 60 := by omega
  have HRA := Lib.hid ra
  have HOK := Lib.hid hok
  clear ra hok hlong hm
  go_enter Try.func5, Try.ntmps5
  go_wp2_with (first
    | (go_at_call 7; (with_reducible refine HAW.out.mono ?_); rintro e w0 ⟨rfl, hb0⟩; have HB0 := Lib.hid hb0; clear hb0)
    | (go_at_call 9; (with_reducible refine (pnew_ok (-1) _).mono ?_); rintro e w1 ⟨rfl, hp1, hw1⟩; have HB1 : Hid (Below w.heap.size w w1) := Lib.hid (by rw [hw1]; exact HB0.out.alloc HB0.out.size _); have HP1 := Lib.hid hp1; clear hp1 hw1)
    | (go_at_call 8; (with_reducible refine (new_ok w.heap.size _ 0 (-1) w1 HP1.out).mono ?_); rintro e w2 ⟨rfl, hk2, hb2⟩; have HK2 := Lib.hid hk2; have HB2 : Hid (Below w.heap.size w w2) := Lib.hid (HB1.out.trans (hb2.mono HB1.out.size)); clear hk2 hb2)
    | fail "no")
  obtain ⟨h, hh⟩ : ∃ h, h = w0.heap.size := ⟨_, rfl⟩
  obtain ⟨g, hg⟩ : ∃ g, g = w1.heap.size := ⟨_, rfl⟩
  obtain ⟨rb, hrb⟩ : ∃ rb, rb = w2.heap.size := ⟨_, rfl⟩
  rw [← hh, ← hg] at HK2
  have hba := (Below.refl w2.heap.size w2).alloc (Nat.le_refl _) (.cells (rta rc0) 33)
  have hP : Py w (w2.alloc (.cells (rta rc0) 33)) g h rb 0 [] 1 rc0 rc0 (.slice none 0 0) [] :=
    ⟨⟨_, HK2.out.later hba, fun b e => by cases e⟩, HB2.out.trans (hba.mono HB2.out.size), ⟨by rw [hg]; exact HB1.out.size, by rw [hh]; exact HB0.out.size, by rw [hrb]; exact HB2.out.size⟩, by rw [hrb]; exact Blk.new w2 _ _, World.ownsRow_nil _ _ _ _, fun x hx => by simp at hx⟩
  have HPY := Lib.hid hP
  clear hP hba HK2 HB2 HB1 HP1 HB0
  rw [← hh, ← hg, ← hrb]
  clear hh hg hrb
  obtain ⟨n, hn⟩ : ∃ n, n = l0.length := ⟨_, rfl⟩
  have HN := Lib.hid hn
  rw [← hn] at hfew ⊢
  clear hn
  go_loopw [6, 7, 8, 10, 11, 13, 14, 26, 86] (fun x u v _ _ _ _ i _ wr => ∃ (k : Nat) (used next : Int) (l m : List Rc) (r : Rt), k ≤ n ∧ i = .int .i64 k ∧ x = .int .u64 next ∧ u = .int .i64 used ∧ Py w wr g h rb used l next r r v m ∧ m.map Rc.con = l.map Rc.con ∧ l.length ≤ k ∧ 0 ≤ used ∧ used ≤ k ∧ 0 < next ∧ next ≤ 1 + k ∧ ∀ x ∈ l, x.raw.length ≤ 40) (fun _ _ _ _ _ _ _ i _ _ => n - (intOf i).toNat)
  case atStart => exact ⟨0, 0, 1, [], [], rc0, by omega, rfl, rfl, rfl, HPY.out, rfl, by simp, by omega, by omega, by omega, by omega, fun x hx => by simp at hx⟩
  case round =>
    obtain ⟨k, used, next, l, m, r, hk, rfl, rfl, rfl, hP, hml, hll, hu0, hu1, hx0, hx1, hrw⟩ := hrel
    by_cases hlt : k < n
    · obtain ⟨Ah, ch, rfl, hrh, hdh⟩ := hP.have_
      clear hrh hdh
      obtain ⟨x, hx⟩ : ∃ x, l0[k]? = some x := ⟨_, List.getElem?_eq_getElem (by have := HN.out; omega)⟩
      have hxo := HOK.out x (List.mem_of_getElem? hx)
      obtain ⟨dn, hd⟩ := Int.eq_ofNat_of_zero_le hxo.d.1
      have hd2 := hxo.d.2
      obtain ⟨a, rfl, c0, c1, c2, c3, c4, c5, c6, c7, c8, c9, c10, c11, c12, c13, c14⟩ := act_at (HRA.out.later hP.bel) hx
      rw [hd] at c0 hd2
      have hba := (Below.refl wr.heap.size wr).alloc (Nat.le_refl _) (.cells #[.int .u8 dn, .int .u8 x.k, .int .i64 x.lba, .slice x.A x.raw.length x.c, .int .u64 x.dur, .int .u8 x.up, .int .i64 x.r.m, .int .i64 x.r.b, .int .i64 x.r.s, .int .i64 x.r.t, .int .i64 x.r.n, .int .i64 x.r.l, .int .u64 x.r.gen, .int .u64 x.r.dur, .int .i64 x.r.stale] 37)
      have HP2 := Lib.hid (hP.later hba)
      have HA2 := Lib.hid (Blk.new wr 37 #[.int .u8 dn, .int .u8 x.k, .int .i64 x.lba, .slice x.A x.raw.length x.c, .int .u64 x.dur, .int .u8 x.up, .int .i64 x.r.m, .int .i64 x.r.b, .int .i64 x.r.s, .int .i64 x.r.t, .int .i64 x.r.n, .int .i64 x.r.l, .int .u64 x.r.gen, .int .u64 x.r.dur, .int .i64 x.r.stale])
      have HXO := Lib.hid hxo
      have hmk : m.length ≤ k := by have := congrArg List.length hml; simp at this; omega
      have HML := Lib.hid hml
      have HRW := Lib.hid hrw
      have g1 : (k : Int) < n := by omega
      clear hP hx hxo hd hba hml hrw
      have hup : IntKind.u64.wrap x.up = x.up := IntWalk.u64_in _ (by have := HXO.out.up; omega)
      by_cases hlong : 40 < x.raw.length
      · go_wp2
        go_ret
        exact ⟨rfl, HP2.out.bel⟩
      · have hk60 : k < 60 := by omega
        by_cases d4 : dn % 6 = 4
        · have e4 : decide (dn % 6 = 4) = true := by simp; omega
          go_wp2_with (first
            | (go_at_call 11; (with_reducible refine (pyCom HP2.out (by omega) (by omega) _ _).mono ?_); rintro e w4 ⟨rfl, hp4, hk4⟩; have HA4 := Lib.hid (hk4 _ _ HA2.out); have y4 := HA4.out.at_ (i := 4) (u := .int .u64 x.dur) rfl; have z7 := hp4.cells.2.2.2.2.2.2.2.1; have zf := hp4.box.frozen 7; have HP4 := Lib.hid hp4; clear hp4 hk4)
            | fail "no")
          have hp5 := HP4.out.dur x.dur
          have ha5 := HA4.out.fr ((Fr.refl (· = rb) w4).setCell (p := ⟨rb, 7, none⟩) (.inl rfl) (.int .u64 x.dur)) (HA4.out.ne_ HP4.out.box (by decide))
          obtain ⟨wc, hwc⟩ : ∃ wc, wc = w4.setCell ⟨rb, 7, none⟩ (.int .u64 x.dur) := ⟨_, rfl⟩
          rw [← hwc] at hp5 ha5 ⊢
          have HP5 := Lib.hid hp5
          have HA5 := Lib.hid ha5
          obtain ⟨ab, hab⟩ : ∃ ab, ab = wr.heap.size := ⟨_, rfl⟩
          rw [← hab] at HA5 ⊢
          clear hp5 ha5 z7 zf y4 HP4 HA4 hwc hab HP2 HA2 c0 c1 c2 c3 c4 c5 c6 c7 c8 c9 c10 c11 c12 c13 c14
          go_wp2
          go_loopw [11, 13, 86] (fun lv _ i wi => ∃ (j : Nat) (Al : Option Addr) (cl : Nat) (m2 : List Rc), j ≤ m.length ∧ i = .int .i64 j ∧ lv = .slice Al m2.length cl ∧ m2 = keep x.up (m.take j) ∧ wi.ownsRow wc.heap.size 45 4 lv m2.length (rcs m2) ∧ Below wc.heap.size wc wi) (fun _ _ i _ => m.length - (intOf i).toNat)
          case atStart => exact ⟨0, none, 0, [], by omega, rfl, rfl, rfl, World.ownsRow_nil _ _ _ _, Below.refl _ _⟩
          case round =>
            rename World => wi
            obtain ⟨j, Al, cl, m2, hj, rfl, rfl, rfl, hown, hbi⟩ := hrel
            by_cases hjl : j < m.length
            · obtain ⟨s, hs⟩ : ∃ s, m[j]? = some s := ⟨_, List.getElem?_eq_getElem hjl⟩
              have hpi := HP5.out.later hbi
              obtain ⟨A', c', e', hrm, -⟩ := hpi.have_
              injection e' with e1 e2 e3
              subst e1 e3
              clear e2
              obtain ⟨am, rfl, a0, a1, a2, a3⟩ := rd_at hrm hs
              have hba := (Below.refl wi.heap.size wi).alloc (Nat.le_refl _) (.cells #[.int .u64 s.seq, .int .i64 s.kind, .int .i64 s.lba, .slice s.A s.raw.length s.c] 45)
              have y5 := (HA5.out.later (hbi.trans (hba.mono hbi.size))).at_ (i := 5) (u := .int .u8 x.up) rfl
              have g2 : (j : Int) < m.length := by omega
              have HRO := Lib.hid (ownsRow_later hown hba)
              have HBI := Lib.hid (hbi.trans (hba.mono hbi.size))
              have hnw := Blk.new wi 45 #[.int .u64 s.seq, .int .i64 s.kind, .int .i64 s.lba, .slice s.A s.raw.length s.c]
              have HNW := Lib.hid hnw
              have x0 := hnw.at_ (i := 0) (u := .int .u64 s.seq) rfl
              have x1 := hnw.at_ (i := 1) (u := .int .i64 s.kind) rfl
              have x2 := hnw.at_ (i := 2) (u := .int .i64 s.lba) rfl
              have x3 := hnw.at_ (i := 3) (u := .slice s.A s.raw.length s.c) rfl
              have hkl := keep_len x.up (m.take j)
              have htl : (m.take j).length = j := by simp; omega
              have HKS := Lib.hid (keep_snoc (q := x.up) hs)
              clear hs hpi hrm hba hown hbi hnw
              by_cases hq : s.seq ≤ x.up
              · have d6 : decide (x.up < s.seq) = false := by simp; omega
                have huq : upq x.up s = true := decide_eq_true hq
                have HUQ := Lib.hid huq
                clear huq
                go_wp2
                go_roundw
                case rel => exact ⟨j + 1, Al, cl, _, by omega, by go_num, rfl, by rw [HKS.out, if_pos HUQ.out, List.append_nil], HRO.out, HBI.out⟩
                case measure => simp [intOf]; omega
              · have d6 : decide (x.up < s.seq) = true := by simp; omega
                have huq : upq x.up s = false := decide_eq_false hq
                have HUQ := Lib.hid huq
                clear huq
                have hn2 := Blk.new_ (wi.alloc (.cells #[.int .u64 s.seq, .int .i64 s.kind, .int .i64 s.lba, .slice s.A s.raw.length s.c] 45)) 45 #[.int .u64 s.seq, .int .i64 s.kind, .int .i64 s.lba, .slice s.A s.raw.length s.c] (n := wi.heap.size + 1) (by simp)
                have hb2 := (Below.refl _ _).alloc (Nat.le_refl (wi.alloc (.cells #[.int .u64 s.seq, .int .i64 s.kind, .int .i64 s.lba, .slice s.A s.raw.length s.c] 45)).heap.size) (.cells #[.int .u64 s.seq, .int .i64 s.kind, .int .i64 s.lba, .slice s.A s.raw.length s.c] 45)
                have HN2 := Lib.hid hn2
                have HR2 := Lib.hid (ownsRow_later HRO.out hb2)
                have HB2 := Lib.hid (HBI.out.trans (hb2.mono HBI.out.size))
                clear hn2 hb2
                go_wp2_with (at_builtin; (refine wpList_append_any _ rfl _ _ 42 rfl wc.heap.size 45 i0 _ 4 48 Try.underlying42 hi0 hz0 hz1 hz2 rfl (by decide) _ _ (rcs (keep x.up (m.take j))) rfl HR2.out (some ⟨wi.heap.size + 1, 0, none⟩) 1 1 (rcv s) rfl rfl (Rd.blk_all (xs := rcv s) HN2.out) (rcv_one _) (by unfold maxLen; omega) (by omega) HB2.out.size ?_); intro v3 w3 hown3 hg3 hat3; have HO3 := Lib.hid hown3; have HB3 := Lib.hid (HB2.out.grown hg3 HB2.out.size (fun b hb => (HR2.out.lt b hb).1)); obtain ⟨A3, c3, rfl, -, -⟩ := own_form hown3; clear hown3 hg3 hat3)
                go_roundw
                case rel => exact ⟨j + 1, A3, c3, keep x.up (m.take (j + 1)), by omega, by go_num, by rw [HKS.out, if_neg (by rw [HUQ.out]; decide), List.length_append]; rfl, rfl, by rw [HKS.out, if_neg (by rw [HUQ.out]; decide), List.length_append, rcs_snoc]; exact HO3.out, HB3.out⟩
                case measure => simp [intOf]; omega
            · obtain rfl : j = m.length := by omega
              rw [List.take_length] at hown ⊢
              have HP9 := Lib.hid (HP5.out.left hbi hown (fun y hy => (List.mem_filter.1 hy).1))
              have HM9 : Hid ((keep x.up m).map Rc.con = (keep x.up l).map Rc.con) := Lib.hid (by rw [keep_con, keep_con, HML.out])
              have HRW9 : Hid (∀ y ∈ keep x.up l, y.raw.length ≤ 40) := Lib.hid fun y hy => HRW.out y (List.mem_filter.1 hy).1
              have hL9 := keep_len x.up l
              generalize ({ r with dur := x.dur } : Rt) = R at HP9
              clear hbi hown HP5 HA5 HXO HRW HML
              go_wp2
              have H9n : Hid (EqN ((keep x.up m).length) ((keep x.up m).length)) := Lib.hid (by unfold EqN; first | rfl | simp)
              obtain ⟨q0, q1, q2, q3, q4, q5, q6, q7, q8⟩ := HP9.out.cells
              have H9a : Hid ((keep x.up l).length ≤ 1000) := Lib.hid (by omega)
              have H9b : Hid (∀ z9 ∈ keep x.up l, z9.raw.length ≤ 1000) := Lib.hid fun z9 hy => by have := HRW9.out z9 hy; omega
              have hq := rt_neq R
              go_region_held3 (fun w' => w'.cell? ⟨rb, 0, none⟩ = some (.int .i64 R.m) ∧ w'.cell? ⟨rb, 1, none⟩ = some (.int .i64 R.b) ∧ w'.cell? ⟨rb, 2, none⟩ = some (.int .i64 R.s) ∧ w'.cell? ⟨rb, 3, none⟩ = some (.int .i64 R.t) ∧ w'.cell? ⟨rb, 4, none⟩ = some (.int .i64 R.n) ∧ w'.cell? ⟨rb, 5, none⟩ = some (.int .i64 R.l) ∧ w'.cell? ⟨rb, 6, none⟩ = some (.int .u64 R.gen) ∧ w'.cell? ⟨rb, 7, none⟩ = some (.int .u64 R.dur) ∧ w'.cell? ⟨rb, 8, none⟩ = some (.int .i64 R.stale))
                (first | go_keep | exact ⟨by assumption, by assumption, by assumption, by assumption, by assumption, by assumption, by assumption, by assumption, by assumption⟩)
                (first
                  | (go_at_call 17; (first | (with_reducible refine (rootP HP9.out.dr).mono ?_) | (with_reducible refine (rootP HP9.out).mono ?_)); rintro e wa ⟨rfl, hpa⟩; obtain ⟨a0, a1, a2, a3, a4, a5, a6, a7, a8⟩ := hpa.cells; have HPa := Lib.hid hpa; clear hpa)
                  | (go_at_call 14; (first | (with_reducible refine (lenP HPa.out.dr HM9.out H9n.out).mono ?_) | (with_reducible refine (lenP HPa.out HM9.out H9n.out).mono ?_)); rintro e wb ⟨rfl, hpb⟩; obtain ⟨b0, b1, b2, b3, b4, b5, b6, b7, b8⟩ := hpb.cells; have HPb := Lib.hid hpb; clear hpb)
                  | (go_at_call 18; (first | (with_reducible refine (usedP HPb.out.dr).mono ?_) | (with_reducible refine (usedP HPb.out).mono ?_)); rintro e wc ⟨rfl, hpc⟩; obtain ⟨c0, c1, c2, c3, c4, c5, c6, c7, c8⟩ := hpc.cells; have HPc := Lib.hid hpc; clear hpc)
                  | (go_at_call 13; (first | (with_reducible refine (recP HPc.out.dr H9a.out H9b.out).mono ?_) | (with_reducible refine (recP HPc.out H9a.out H9b.out).mono ?_)); rintro e wd ⟨A5, c5, m5, rfl, h51, h52, h53, hpd⟩; obtain ⟨e0, e1, e2, e3, e4, e5, e6, e7, e8⟩ := hpd.cells; have HPd := Lib.hid hpd; have H51 := Lib.hid h51; have H52 := Lib.hid h52; have H53 := Lib.hid h53; clear hpd h51 h52 h53)
                  | (go_at_call 19; (first | (with_reducible refine (sameP HPd.out H9n.out H51.out H52.out H53.out HM9.out H9a.out H9b.out).mono ?_) | (with_reducible refine (sameP HPd.out.dr H9n.out H51.out (H52.out.later (Below.refl _ _).drew) (H53.out.later (Below.refl _ _).drew) HM9.out H9a.out H9b.out).mono ?_)); rintro e wf ⟨rfl, hpf⟩; obtain ⟨f0, f1, f2, f3, f4, f5, f6, f7, f8⟩ := hpf.cells; have HPf := Lib.hid hpf; clear hpf)
                  | fail "no arm")
              go_wp2
              go_roundw
              case rel => exact ⟨k + 1, used + 1, next, keep x.up l, keep x.up m, R, by omega, by go_num, rfl, rfl, HPf.out, HM9.out, (by first | omega | (simp; omega)), by omega, by omega, by omega, by omega, HRW9.out⟩
              case measure => simp [intOf]; omega
        · have e4 : decide (dn % 6 = 4) = false := by simp; omega
          by_cases d5 : dn % 6 = 5
          · have e5 : decide (dn % 6 = 5) = true := by simp; omega
            go_wp2_with (first
              | (go_at_call 10; (with_reducible refine (pySetE HP2.out (by omega) _).mono ?_); rintro e w4 ⟨rfl, hp4, hk4⟩; have HA4 := Lib.hid (hk4 _ _ HA2.out); have y6 := HA4.out.at_ (i := 6) (u := .int .i64 x.r.m) rfl; have y7 := HA4.out.at_ (i := 7) (u := .int .i64 x.r.b) rfl; have y8 := HA4.out.at_ (i := 8) (u := .int .i64 x.r.s) rfl; have y9 := HA4.out.at_ (i := 9) (u := .int .i64 x.r.t) rfl; have y10 := HA4.out.at_ (i := 10) (u := .int .i64 x.r.n) rfl; have y11 := HA4.out.at_ (i := 11) (u := .int .i64 x.r.l) rfl; have y12 := HA4.out.at_ (i := 12) (u := .int .u64 x.r.gen) rfl; have y13 := HA4.out.at_ (i := 13) (u := .int .u64 x.r.dur) rfl; have y14 := HA4.out.at_ (i := 14) (u := .int .i64 x.r.stale) rfl; obtain ⟨z0, z1, z2, z3, z4, z5, z6, z7, z8⟩ := hp4.cells; have zf := fun i => hp4.box.frozen i; have HP4 := Lib.hid hp4; clear hp4 hk4)
              | fail "no")
            have hp9 := HP4.out.all x.r
            obtain ⟨W, hW⟩ : ∃ W, W = (((((((((w4.setCell ⟨rb, 0, none⟩ (.int .i64 x.r.m)).setCell ⟨rb, 1, none⟩ (.int .i64 x.r.b)).setCell ⟨rb, 2, none⟩ (.int .i64 x.r.s)).setCell ⟨rb, 3, none⟩ (.int .i64 x.r.t)).setCell ⟨rb, 4, none⟩ (.int .i64 x.r.n)).setCell ⟨rb, 5, none⟩ (.int .i64 x.r.l)).setCell ⟨rb, 6, none⟩ (.int .u64 x.r.gen)).setCell ⟨rb, 7, none⟩ (.int .u64 x.r.dur)).setCell ⟨rb, 8, none⟩ (.int .i64 x.r.stale)) := ⟨_, rfl⟩
            rw [← hW] at hp9 ⊢
            generalize x.r = R at hp9 ⊢
            have HP9 := Lib.hid hp9
            have HM9 := HML
            have HRW9 := HRW
            clear hp9 hW HP4 HA4 HP2 HA2 c0 c1 c2 c3 c4 c5 c6 c7 c8 c9 c10 c11 c12 c13 c14 y6 y7 y8 y9 y10 y11 y12 y13 y14 z0 z1 z2 z3 z4 z5 z6 z7 z8 zf
            have H9n : Hid (EqN (m.length) (m.length)) := Lib.hid (by unfold EqN; first | rfl | simp)
            obtain ⟨q0, q1, q2, q3, q4, q5, q6, q7, q8⟩ := HP9.out.cells
            have H9a : Hid ((l).length ≤ 1000) := Lib.hid (by omega)
            have H9b : Hid (∀ z9 ∈ l, z9.raw.length ≤ 1000) := Lib.hid fun z9 hy => by have := HRW9.out z9 hy; omega
            have hq := rt_neq R
            go_region_held3 (fun w' => w'.cell? ⟨rb, 0, none⟩ = some (.int .i64 R.m) ∧ w'.cell? ⟨rb, 1, none⟩ = some (.int .i64 R.b) ∧ w'.cell? ⟨rb, 2, none⟩ = some (.int .i64 R.s) ∧ w'.cell? ⟨rb, 3, none⟩ = some (.int .i64 R.t) ∧ w'.cell? ⟨rb, 4, none⟩ = some (.int .i64 R.n) ∧ w'.cell? ⟨rb, 5, none⟩ = some (.int .i64 R.l) ∧ w'.cell? ⟨rb, 6, none⟩ = some (.int .u64 R.gen) ∧ w'.cell? ⟨rb, 7, none⟩ = some (.int .u64 R.dur) ∧ w'.cell? ⟨rb, 8, none⟩ = some (.int .i64 R.stale))
              (first | go_keep | exact ⟨by assumption, by assumption, by assumption, by assumption, by assumption, by assumption, by assumption, by assumption, by assumption⟩)
              (first
                | (go_at_call 17; (first | (with_reducible refine (rootP HP9.out.dr).mono ?_) | (with_reducible refine (rootP HP9.out).mono ?_)); rintro e wa ⟨rfl, hpa⟩; obtain ⟨a0, a1, a2, a3, a4, a5, a6, a7, a8⟩ := hpa.cells; have HPa := Lib.hid hpa; clear hpa)
                | (go_at_call 14; (first | (with_reducible refine (lenP HPa.out.dr HM9.out H9n.out).mono ?_) | (with_reducible refine (lenP HPa.out HM9.out H9n.out).mono ?_)); rintro e wb ⟨rfl, hpb⟩; obtain ⟨b0, b1, b2, b3, b4, b5, b6, b7, b8⟩ := hpb.cells; have HPb := Lib.hid hpb; clear hpb)
                | (go_at_call 18; (first | (with_reducible refine (usedP HPb.out.dr).mono ?_) | (with_reducible refine (usedP HPb.out).mono ?_)); rintro e wc ⟨rfl, hpc⟩; obtain ⟨c0, c1, c2, c3, c4, c5, c6, c7, c8⟩ := hpc.cells; have HPc := Lib.hid hpc; clear hpc)
                | (go_at_call 13; (first | (with_reducible refine (recP HPc.out.dr H9a.out H9b.out).mono ?_) | (with_reducible refine (recP HPc.out H9a.out H9b.out).mono ?_)); rintro e wd ⟨A5, c5, m5, rfl, h51, h52, h53, hpd⟩; obtain ⟨e0, e1, e2, e3, e4, e5, e6, e7, e8⟩ := hpd.cells; have HPd := Lib.hid hpd; have H51 := Lib.hid h51; have H52 := Lib.hid h52; have H53 := Lib.hid h53; clear hpd h51 h52 h53)
                | (go_at_call 19; (first | (with_reducible refine (sameP HPd.out H9n.out H51.out H52.out H53.out HM9.out H9a.out H9b.out).mono ?_) | (with_reducible refine (sameP HPd.out.dr H9n.out H51.out (H52.out.later (Below.refl _ _).drew) (H53.out.later (Below.refl _ _).drew) HM9.out H9a.out H9b.out).mono ?_)); rintro e wf ⟨rfl, hpf⟩; obtain ⟨f0, f1, f2, f3, f4, f5, f6, f7, f8⟩ := hpf.cells; have HPf := Lib.hid hpf; clear hpf)
                | fail "no arm")
            go_wp2
            go_roundw
            case rel => exact ⟨k + 1, used + 1, next, l, m, R, by omega, by go_num, rfl, rfl, HPf.out, HM9.out, (by first | omega | (simp; omega)), by omega, by omega, by omega, by omega, HRW9.out⟩
            case measure => simp [intOf]; omega
          · have e5 : decide (dn % 6 = 5) = false := by simp; omega
            have hkk : IntKind.i64.wrap x.k = x.k := IntWalk.i64_in _ (by have := HXO.out.k; omega)
            have HXD := Lib.hid HXO.out.data.1
            have hlm : m.length = l.length := by simpa using congrArg List.length HML.out
            have HLM := Lib.hid hlm
            by_cases hf : (l.length : Int) < r.n
            · have d7 : decide (r.n ≤ (m.length : Int)) = false := by simp; omega
              have hn1 : IntKind.u64.wrap (next + 1) = next + 1 := IntWalk.u64_in _ (by omega)
              have HF := Lib.hid hf
              clear hf hlm
              go_wp2_with (first
                | (go_at_call 12; (with_reducible refine (pyApp HP2.out (by omega) (by omega) (by omega) _ _ _ _ _ HXD.out (by omega) HF.out).mono ?_); rintro e w4 ⟨rfl, y, hy, hp4, hk4⟩; have HY := Lib.hid hy; have HA4 := Lib.hid (hk4 _ _ HA2.out); have y1 := HA4.out.at_ (i := 1) (u := .int .u8 x.k) rfl; have y2 := HA4.out.at_ (i := 2) (u := .int .i64 x.lba) rfl; have y3 := HA4.out.at_ (i := 3) (u := .slice x.A x.raw.length x.c) rfl; have z4 := hp4.cells.2.2.2.2.1; have HPl := Lib.hid (hp4.later ((Below.refl w4.heap.size w4).alloc (Nat.le_refl _) (.cells #[.int .u64 next, .int .i64 x.k, .int .i64 x.lba, .slice x.A x.raw.length x.c] 45))); have HNW := Lib.hid (Blk.new w4 45 #[.int .u64 next, .int .i64 x.k, .int .i64 x.lba, .slice x.A x.raw.length x.c]); clear hp4 hk4 hy)
                | (at_builtin; (refine wpList_append_any _ rfl _ _ 42 rfl w.heap.size 45 i0 _ 4 48 Try.underlying42 hi0 hz0 hz1 hz2 rfl (by decide) _ _ (rcs m) rfl HPl.out.row (some ⟨w4.heap.size, 0, none⟩) 1 1 (rcv ⟨next, x.k, x.lba, x.A, x.raw, x.c⟩) rfl rfl (Rd.blk_all (xs := rcv ⟨next, x.k, x.lba, x.A, x.raw, x.c⟩) HNW.out) (rcv_one _) (by unfold maxLen; omega) (by omega) HPl.out.bel.size ?_); intro v3 w3 hown3 hg3 hat3; have HP9 := Lib.hid (HPl.out.push ⟨next, x.k, x.lba, x.A, x.raw, x.c⟩ HXD.out hg3 hown3 hat3); obtain ⟨A33, c33, rfl, -, -⟩ := own_form hown3; clear hown3 hg3 hat3)
                | fail "no")
              have HM9 : Hid ((m ++ [(⟨next, x.k, x.lba, x.A, x.raw, x.c⟩ : Rc)]).map Rc.con = (l ++ [y]).map Rc.con) := Lib.hid (by rw [List.map_append, List.map_append, HML.out, List.map_singleton, List.map_singleton, HY.out]; rfl)
              have HRW9 : Hid (∀ z ∈ l ++ [y], z.raw.length ≤ 40) := Lib.hid fun z hz => by
                rcases List.mem_append.1 hz with hz | hz
                · exact HRW.out z hz
                · simp at hz
                  subst hz
                  have : z.raw = x.raw := congrArg (·.2.2.2) HY.out
                  rw [this]
                  omega
              have hlen9 : (m ++ [(⟨next, x.k, x.lba, x.A, x.raw, x.c⟩ : Rc)]).length = m.length + 1 := by simp
              have hlen8 : (l ++ [y]).length = l.length + 1 := by simp
              obtain ⟨R, hR⟩ : ∃ R, R = r := ⟨_, rfl⟩
              rw [← hR] at HP9
              clear hR HP2 HA2 HA4 HPl HNW c0 c1 c2 c3 c4 c5 c6 c7 c8 c9 c10 c11 c12 c13 c14 z4 y1 y2 y3
              have H9n : Hid (EqN (m.length + 1) ((m ++ [(⟨next, x.k, x.lba, x.A, x.raw, x.c⟩ : Rc)]).length)) := Lib.hid (by unfold EqN; first | rfl | simp)
              obtain ⟨q0, q1, q2, q3, q4, q5, q6, q7, q8⟩ := HP9.out.cells
              have H9a : Hid ((l ++ [y]).length ≤ 1000) := Lib.hid (by omega)
              have H9b : Hid (∀ z9 ∈ l ++ [y], z9.raw.length ≤ 1000) := Lib.hid fun z9 hy => by have := HRW9.out z9 hy; omega
              have hq := rt_neq R
              go_region_held3 (fun w' => w'.cell? ⟨rb, 0, none⟩ = some (.int .i64 R.m) ∧ w'.cell? ⟨rb, 1, none⟩ = some (.int .i64 R.b) ∧ w'.cell? ⟨rb, 2, none⟩ = some (.int .i64 R.s) ∧ w'.cell? ⟨rb, 3, none⟩ = some (.int .i64 R.t) ∧ w'.cell? ⟨rb, 4, none⟩ = some (.int .i64 R.n) ∧ w'.cell? ⟨rb, 5, none⟩ = some (.int .i64 R.l) ∧ w'.cell? ⟨rb, 6, none⟩ = some (.int .u64 R.gen) ∧ w'.cell? ⟨rb, 7, none⟩ = some (.int .u64 R.dur) ∧ w'.cell? ⟨rb, 8, none⟩ = some (.int .i64 R.stale))
                (first | go_keep | exact ⟨by assumption, by assumption, by assumption, by assumption, by assumption, by assumption, by assumption, by assumption, by assumption⟩)
                (first
                  | (go_at_call 17; (first | (with_reducible refine (rootP HP9.out.dr).mono ?_) | (with_reducible refine (rootP HP9.out).mono ?_)); rintro e wa ⟨rfl, hpa⟩; obtain ⟨a0, a1, a2, a3, a4, a5, a6, a7, a8⟩ := hpa.cells; have HPa := Lib.hid hpa; clear hpa)
                  | (go_at_call 14; (first | (with_reducible refine (lenP HPa.out.dr HM9.out H9n.out).mono ?_) | (with_reducible refine (lenP HPa.out HM9.out H9n.out).mono ?_)); rintro e wb ⟨rfl, hpb⟩; obtain ⟨b0, b1, b2, b3, b4, b5, b6, b7, b8⟩ := hpb.cells; have HPb := Lib.hid hpb; clear hpb)
                  | (go_at_call 18; (first | (with_reducible refine (usedP HPb.out.dr).mono ?_) | (with_reducible refine (usedP HPb.out).mono ?_)); rintro e wc ⟨rfl, hpc⟩; obtain ⟨c0, c1, c2, c3, c4, c5, c6, c7, c8⟩ := hpc.cells; have HPc := Lib.hid hpc; clear hpc)
                  | (go_at_call 13; (first | (with_reducible refine (recP HPc.out.dr H9a.out H9b.out).mono ?_) | (with_reducible refine (recP HPc.out H9a.out H9b.out).mono ?_)); rintro e wd ⟨A5, c5, m5, rfl, h51, h52, h53, hpd⟩; obtain ⟨e0, e1, e2, e3, e4, e5, e6, e7, e8⟩ := hpd.cells; have HPd := Lib.hid hpd; have H51 := Lib.hid h51; have H52 := Lib.hid h52; have H53 := Lib.hid h53; clear hpd h51 h52 h53)
                  | (go_at_call 19; (first | (with_reducible refine (sameP HPd.out H9n.out H51.out H52.out H53.out HM9.out H9a.out H9b.out).mono ?_) | (with_reducible refine (sameP HPd.out.dr H9n.out H51.out (H52.out.later (Below.refl _ _).drew) (H53.out.later (Below.refl _ _).drew) HM9.out H9a.out H9b.out).mono ?_)); rintro e wf ⟨rfl, hpf⟩; obtain ⟨f0, f1, f2, f3, f4, f5, f6, f7, f8⟩ := hpf.cells; have HPf := Lib.hid hpf; clear hpf)
                  | fail "no arm")
              go_wp2
              go_roundw
              case rel => exact ⟨k + 1, used + 1, next + 1, l ++ [y], m ++ [(⟨next, x.k, x.lba, x.A, x.raw, x.c⟩ : Rc)], R, by omega, by go_num, rfl, rfl, HPf.out, HM9.out, (by first | omega | (simp; omega)), by omega, by omega, by omega, by omega, HRW9.out⟩
              case measure => simp [intOf]; omega
            · have d7 : decide (r.n ≤ (m.length : Int)) = true := by simp; omega
              have HF := Lib.hid (Int.not_lt.1 hf)
              clear hf hlm
              go_wp2_with (first
                | (go_at_call 12; (with_reducible refine (pyFull HP2.out (by omega) _ _ _ HF.out).mono ?_); rintro e w4 ⟨rfl, hp4, hk4⟩; have z4 := hp4.cells.2.2.2.2.1; have HP4 := Lib.hid hp4; clear hp4 hk4)
                | fail "no")
              have HP9 := HP4
              obtain ⟨R, hR⟩ : ∃ R, R = r := ⟨_, rfl⟩
              rw [← hR] at HP9
              have HM9 := HML
              have HRW9 := HRW
              clear hR HP4 HP2 HA2 c0 c1 c2 c3 c4 c5 c6 c7 c8 c9 c10 c11 c12 c13 c14 z4
              have H9n : Hid (EqN (m.length) (m.length)) := Lib.hid (by unfold EqN; first | rfl | simp)
              obtain ⟨q0, q1, q2, q3, q4, q5, q6, q7, q8⟩ := HP9.out.cells
              have H9a : Hid ((l).length ≤ 1000) := Lib.hid (by omega)
              have H9b : Hid (∀ z9 ∈ l, z9.raw.length ≤ 1000) := Lib.hid fun z9 hy => by have := HRW9.out z9 hy; omega
              have hq := rt_neq R
              go_region_held3 (fun w' => w'.cell? ⟨rb, 0, none⟩ = some (.int .i64 R.m) ∧ w'.cell? ⟨rb, 1, none⟩ = some (.int .i64 R.b) ∧ w'.cell? ⟨rb, 2, none⟩ = some (.int .i64 R.s) ∧ w'.cell? ⟨rb, 3, none⟩ = some (.int .i64 R.t) ∧ w'.cell? ⟨rb, 4, none⟩ = some (.int .i64 R.n) ∧ w'.cell? ⟨rb, 5, none⟩ = some (.int .i64 R.l) ∧ w'.cell? ⟨rb, 6, none⟩ = some (.int .u64 R.gen) ∧ w'.cell? ⟨rb, 7, none⟩ = some (.int .u64 R.dur) ∧ w'.cell? ⟨rb, 8, none⟩ = some (.int .i64 R.stale))
                (first | go_keep | exact ⟨by assumption, by assumption, by assumption, by assumption, by assumption, by assumption, by assumption, by assumption, by assumption⟩)
                (first
                  | (go_at_call 17; (first | (with_reducible refine (rootP HP9.out.dr).mono ?_) | (with_reducible refine (rootP HP9.out).mono ?_)); rintro e wa ⟨rfl, hpa⟩; obtain ⟨a0, a1, a2, a3, a4, a5, a6, a7, a8⟩ := hpa.cells; have HPa := Lib.hid hpa; clear hpa)
                  | (go_at_call 14; (first | (with_reducible refine (lenP HPa.out.dr HM9.out H9n.out).mono ?_) | (with_reducible refine (lenP HPa.out HM9.out H9n.out).mono ?_)); rintro e wb ⟨rfl, hpb⟩; obtain ⟨b0, b1, b2, b3, b4, b5, b6, b7, b8⟩ := hpb.cells; have HPb := Lib.hid hpb; clear hpb)
                  | (go_at_call 18; (first | (with_reducible refine (usedP HPb.out.dr).mono ?_) | (with_reducible refine (usedP HPb.out).mono ?_)); rintro e wc ⟨rfl, hpc⟩; obtain ⟨c0, c1, c2, c3, c4, c5, c6, c7, c8⟩ := hpc.cells; have HPc := Lib.hid hpc; clear hpc)
                  | (go_at_call 13; (first | (with_reducible refine (recP HPc.out.dr H9a.out H9b.out).mono ?_) | (with_reducible refine (recP HPc.out H9a.out H9b.out).mono ?_)); rintro e wd ⟨A5, c5, m5, rfl, h51, h52, h53, hpd⟩; obtain ⟨e0, e1, e2, e3, e4, e5, e6, e7, e8⟩ := hpd.cells; have HPd := Lib.hid hpd; have H51 := Lib.hid h51; have H52 := Lib.hid h52; have H53 := Lib.hid h53; clear hpd h51 h52 h53)
                  | (go_at_call 19; (first | (with_reducible refine (sameP HPd.out H9n.out H51.out H52.out H53.out HM9.out H9a.out H9b.out).mono ?_) | (with_reducible refine (sameP HPd.out.dr H9n.out H51.out (H52.out.later (Below.refl _ _).drew) (H53.out.later (Below.refl _ _).drew) HM9.out H9a.out H9b.out).mono ?_)); rintro e wf ⟨rfl, hpf⟩; obtain ⟨f0, f1, f2, f3, f4, f5, f6, f7, f8⟩ := hpf.cells; have HPf := Lib.hid hpf; clear hpf)
                  | fail "no arm")
              go_wp2
              go_roundw
              case rel => exact ⟨k + 1, used, next, l, m, R, by omega, by go_num, rfl, rfl, HPf.out, HM9.out, (by first | omega | (simp; omega)), by omega, by omega, by omega, by omega, HRW9.out⟩
              case measure => simp [intOf]; omega
    · obtain rfl : k = n := by omega
      go_wp2
      go_ret
      exact ⟨rfl, hP.bel⟩
theorem nvPlays_true {H : Type} {enc : TypeId × Value → H} {r : Reach} {b0 : Nat} (v : Value) (d : DataW H) (ps : List MemPlace) (w : World) (k : DataW.Trod enc Try.prog w 0 (fun _ => true) true 22 v d ps) (o : Value.okWide Try.prog w r b0 22 v) {Z : Prop} (_ : Z) :
    Calls Try.prog 5 #[v] w fun e w' => e = .returned (.bool true) ∧ Below w.heap.size w w' := by
  obtain ⟨A, c, l, rfl, ra, h1, h2, hok⟩ := acts_of k o
  exact plays_walk A c l w ra hok (by unfold maxLen at h2; omega)
end Go.Proofs.Ytgcmfcdbgimnjaa
