/- The walk of NvWhole's closure. No further condition. -/
import Derived.Test.YtgcmfcdbgimnjaaNvg
namespace Go.Proofs.Ytgcmfcdbgimnjaa
open Go.RowKit
attribute [local go_sem ↓] Go.wp_at_zero Go.wp_at_succ

set_option maxRecDepth 100000 in
set_option maxHeartbeats 12800000 in
theorem whole_cl (w0 : World) (lb nb wb rb g h : Nat) (A : Option Addr) (c : Nat) (l0 : List Av) (lim used next : Int) (l : List Rc) (r : Rt) (w : World) (hb : Blk w lb 22 #[.slice A l0.length c]) (hnb : Blk w nb 24 #[.pointer (some ⟨g, 0, none⟩)])
    (k0 : Wh w0 w g h wb rb used lim l next r) (i0 : Wi used lim l next r 10) (ra : Rd w0 A (acs l0)) (hok : ∀ x ∈ l0, AvOk w0 x) (hfew : l0.length ≤ 40) :
    Calls Try.prog 22 #[.pointer (some ⟨lb, 0, none⟩), .pointer (some ⟨nb, 0, none⟩), .pointer (some ⟨wb, 0, none⟩), .pointer (some ⟨rb, 0, none⟩)] w fun e w' =>
      (e = .returned (.tuple #[]) ∧ Kt w w' ∧ Below w0.heap.size w0 w') ∨ (e = .panicked gone ∧ Kt w w' ∧ ∃ l next r, Wq w0 w' g h wb rb lim lim l next r ∧ Wi lim lim l next r 100) := by
  have HRA := Lib.hid ra
  have HOK := Lib.hid hok
  have HB := Lib.hid hb
  have HNB := Lib.hid hnb
  have HK0 := Lib.hid k0
  have HI0 := Lib.hid i0
  have b0 := hb.cells1
  have n0 := hnb.cells1
  obtain ⟨n, hn⟩ : ∃ n, n = l0.length := ⟨_, rfl⟩
  have HN := Lib.hid hn
  rw [← hn] at hfew b0
  rw [← hn] at HB
  clear ra hok hb hnb k0 i0 hn
  go_enter Try.func22, Try.ntmps22
  go_wp2
  go_loopw [5, 8] (fun _ i wr => ∃ (k : Nat) (used next : Int) (l : List Rc) (r : Rt), k ≤ n ∧ i = .int .i64 k ∧ Wh w0 wr g h wb rb used lim l next r ∧ Wi used lim l next r (10 + k) ∧ Kt w wr) (fun _ i _ => n - (intOf i).toNat)
  case atStart => exact ⟨0, used, next, l, r, by omega, rfl, HK0.out, HI0.out, fun _ _ _ _ _ _ _ _ q => q⟩
  case round =>
    clear b0 n0 HK0 HI0
    obtain ⟨k, used, next, l, r, hk, rfl, hW, hI, hK⟩ := hrel
    by_cases hlt : k < n
    · obtain ⟨x, hx⟩ : ∃ x, l0[k]? = some x := ⟨_, List.getElem?_eq_getElem (by have := HN.out; omega)⟩
      have hxo := HOK.out x (List.mem_of_getElem? hx)
      obtain ⟨dn, hd⟩ := Int.eq_ofNat_of_zero_le hxo.d.1
      have hd2 := hxo.d.2
      obtain ⟨a, rfl, c0, c1, c2, c3, c4, c5, c6, c7, c8, c9, c10, c11, c12, c13, c14⟩ := act_at (HRA.out.later hW.bel) hx
      rw [hd] at c0 hd2
      have hba := (Below.refl wr.heap.size wr).alloc (Nat.le_refl _) (.cells #[.int .u8 dn, .int .u8 x.k, .int .i64 x.lba, .slice x.A x.raw.length x.c, .int .u64 x.dur, .int .u8 x.up, .int .i64 x.r.m, .int .i64 x.r.b, .int .i64 x.r.s, .int .i64 x.r.t, .int .i64 x.r.n, .int .i64 x.r.l, .int .u64 x.r.gen, .int .u64 x.r.dur, .int .i64 x.r.stale] 37)
      have HW1 := Lib.hid (hW.later hba)
      have HK1 := Lib.hid (hK.trans (Kt.later hba))
      have HA1 := Lib.hid (Blk.new wr 37 #[.int .u8 dn, .int .u8 x.k, .int .i64 x.lba, .slice x.A x.raw.length x.c, .int .u64 x.dur, .int .u8 x.up, .int .i64 x.r.m, .int .i64 x.r.b, .int .i64 x.r.s, .int .i64 x.r.t, .int .i64 x.r.n, .int .i64 x.r.l, .int .u64 x.r.gen, .int .u64 x.r.dur, .int .i64 x.r.stale])
      have HXO := Lib.hid hxo
      have HI := Lib.hid hI
      have g1 : (k : Int) < n := by omega
      have hup : IntKind.u64.wrap x.up = x.up := IntWalk.u64_in _ (by have := hxo.up; omega)
      have hkk : IntKind.i64.wrap x.k = x.k := IntWalk.i64_in _ (by have := hxo.k; omega)
      clear hW hI hK hx hxo hd hba
      go_upto_region 3 with fail
      obtain ⟨ab, hab⟩ : ∃ ab, ab = wr.heap.size := ⟨_, rfl⟩
      rw [← hab] at HA1 ⊢
      generalize wr.alloc (.cells #[.int .u8 dn, .int .u8 x.k, .int .i64 x.lba, .slice x.A x.raw.length x.c, .int .u64 x.dur, .int .u8 x.up, .int .i64 x.r.m, .int .i64 x.r.b, .int .i64 x.r.s, .int .i64 x.r.t, .int .i64 x.r.n, .int .i64 x.r.l, .int .u64 x.r.gen, .int .u64 x.r.dur, .int .i64 x.r.stale] 37) = W1 at HW1 HK1 HA1 ⊢
      clear c0 c1 c2 c3 c4 c5 c6 c7 c8 c9 c10 c11 c12 c13 c14 hab
      have hnb1 := HK1.out _ _ _ (by decide) (by decide) (by decide) (by decide) (by decide) HNB.out
      have nc1 := hnb1.cells1
      have nc1d : W1.drew.cell? ⟨nb, 0, none⟩ = some (.pointer (some ⟨g, 0, none⟩)) := nc1
      have hne1 : nb ≠ wb := by obtain ⟨u, hu⟩ := HW1.out.wasb; exact Blk.ne_ hnb1 hu (by decide)
      have hne2 : nb ≠ rb := by obtain ⟨u, hu⟩ := HW1.out.rootb; exact Blk.ne_ hnb1 hu (by decide)
      have hne3 : rb ≠ wb := by obtain ⟨u, hu⟩ := HW1.out.rootb; obtain ⟨u2, hu2⟩ := HW1.out.wasb; exact Blk.ne_ hu hu2 (by decide)
      have HNB1 := Lib.hid hnb1
      have hsw : wb < W1.heap.size := by obtain ⟨u, hu⟩ := HW1.out.wasb; exact hu.lt
      have hsr : rb < W1.heap.size := by obtain ⟨u, hu⟩ := HW1.out.rootb; exact hu.lt
      have hsn := hnb1.lt
      clear hnb1
      go_cut [] (fun wx => Wq w0 wx g h wb rb used lim l next r ∧ Kt W1 wx)
      case first =>
        go_region_held3 (fun w' => w'.cell? ⟨nb, 0, none⟩ = some (.pointer (some ⟨g, 0, none⟩)))
          (first | (with_reducible assumption) | (with_reducible refine Blk.cells1 (t := 24) ?_; repeat' (first | (with_reducible exact HNBd.out) | (with_reducible refine Blk.fa ?_ ?_) | (with_reducible exact hne1) | (with_reducible exact hne2))) | go_keep)
          (first
            | (go_at_call 13; (with_reducible refine (wRec (HW1.out.later (Below.refl _ _).drew) HI.out).mono ?_); rintro e wa ⟨v, m, rfl, hm, hr, hb⟩; obtain ⟨Am, cm, rfl, -⟩ := hr.hd; have HWa := Lib.hid ((HW1.out.later (Below.refl _ _).drew).later hb); have HBa : Hid (Below W1.heap.size W1 wa) := Lib.hid ((Below.refl _ _).drew.trans hb); have HM := Lib.hid hm; have HR : Hid (Rw wa W1.heap.size (.slice Am m.length cm) m) := Lib.hid hr; have na := (HNB1.out.later HBa.out).cells1; clear hm hr hb)
            | (go_at_call 17; (with_reducible refine (wRoot HWa.out).mono ?_); rintro e wd ⟨rfl, hb⟩; have HWd := Lib.hid (HWa.out.later hb); have HBd := Lib.hid (HBa.out.trans (hb.mono HBa.out.size)); have HRd := Lib.hid (HR.out.later hb); have nd := (HNB1.out.later HBd.out).cells1; have HNBd := Lib.hid (HNB1.out.later HBd.out); obtain ⟨u, hwb⟩ := HWd.out.wasb; obtain ⟨q, hrb⟩ := HWd.out.rootb; have u0 := hwb.cells1; have uf := hwb.frozen 0; have rf := fun i => hrb.frozen i; have q0 := hrb.at_ (i := 0) rfl; have q1 := hrb.at_ (i := 1) rfl; have q2 := hrb.at_ (i := 2) rfl; have q3 := hrb.at_ (i := 3) rfl; have q4 := hrb.at_ (i := 4) rfl; have q5 := hrb.at_ (i := 5) rfl; have q6 := hrb.at_ (i := 6) rfl; have q7 := hrb.at_ (i := 7) rfl; have q8 := hrb.at_ (i := 8) rfl; clear hb hwb hrb)
            | fail "no arm")
        all_goals
          go_wp2_with fail
          go_meet
          have hA := Wq.ofA HWd.out HRd.out HM.out ⟨hsw, hsr⟩
          have hB := Wq.ofB HWd.out HRd.out HM.out ⟨hsw, hsr⟩
          first
            | exact ⟨hA.1, (Kt.later HBd.out).trans hA.2⟩
            | exact ⟨hB.1, (Kt.later HBd.out).trans hB.2⟩
      case rest =>
        obtain ⟨hq, hkt⟩ := hcut
        have HQ := Lib.hid hq
        have HKc := Lib.hid (HK1.out.trans hkt)
        have hac := hkt _ _ _ (by decide) (by decide) (by decide) (by decide) (by decide) HA1.out
        have nbc := (HKc.out _ _ _ (by decide) (by decide) (by decide) (by decide) (by decide) HNB.out).cells1
        have y0 := hac.at_ (i := 0) (u := .int .u8 dn) rfl
        have y1 := hac.at_ (i := 1) (u := .int .u8 x.k) rfl
        have y2 := hac.at_ (i := 2) (u := .int .i64 x.lba) rfl
        have y4 := hac.at_ (i := 4) (u := .int .u64 x.dur) rfl
        have y5 := hac.at_ (i := 5) (u := .int .u8 x.up) rfl
        clear hq hkt hac nc1 nc1d hsw hsr hsn HW1 HK1 HA1 HNB1
        by_cases d4 : dn % 6 = 4
        · have e4 : decide (dn % 6 = 4) = true := by simp; omega
          by_cases hu : used < lim
          · have HU := Lib.hid hu
            clear hu
            go_wp2_with (first | (go_at_call 11; (with_reducible refine (wCom HQ.out.wh HI.out HU.out x.dur x.up).mono ?_); rintro e w4 ⟨rfl, hk4, u2, l2, n2, r2, hw4, hi4⟩; have HW4 := Lib.hid hw4; have HI4 := Lib.hid hi4; have HK4 := Lib.hid (HKc.out.trans hk4); clear hw4 hi4 hk4) | fail "no")
            go_roundw
            case rel => exact ⟨k + 1, u2, n2, l2, r2, by omega, by go_num, HW4.out, by have := HI4.out; rwa [Nat.add_assoc] at this, HK4.out⟩
            case measure => simp [intOf]; omega
          · obtain rfl : lim = used := by have := HI.out.u1; omega
            go_wp2_with (first | (go_at_call 11; (with_reducible refine (wComOff HQ.out.wh HI.out rfl x.dur x.up).mono ?_); rintro e w4 ⟨rfl, hb4⟩; have HB4 := Lib.hid hb4; clear hb4) | fail "no")
            exact ⟨rfl, .inr ⟨rfl, HKc.out.trans (Kt.later HB4.out), l, next, r, HQ.out.later HB4.out, ⟨HI.out.n1, HI.out.l1, HI.out.u1, ⟨HI.out.x1.1, by have := HI.out.x1; omega⟩, HI.out.raw1⟩⟩⟩
        · have e4 : decide (dn % 6 = 4) = false := by simp; omega
          by_cases d5 : dn % 6 = 5
          · have e5 : decide (dn % 6 = 5) = true := by simp; omega
            by_cases hu : used < lim
            · have HU := Lib.hid hu
              clear hu
              go_wp2_with (first | (go_at_call 10; (with_reducible refine (wSet HQ.out.wh HI.out HU.out x.dur).mono ?_); rintro e w4 ⟨rfl, hk4, u2, l2, n2, r2, hw4, hi4⟩; have HW4 := Lib.hid hw4; have HI4 := Lib.hid hi4; have HK4 := Lib.hid (HKc.out.trans hk4); clear hw4 hi4 hk4) | fail "no")
              go_roundw
              case rel => exact ⟨k + 1, u2, n2, l2, r2, by omega, by go_num, HW4.out, by have := HI4.out; rwa [Nat.add_assoc] at this, HK4.out⟩
              case measure => simp [intOf]; omega
            · obtain rfl : lim = used := by have := HI.out.u1; omega
              go_wp2_with (first | (go_at_call 10; (with_reducible refine (wSetOff HQ.out.wh HI.out rfl x.dur).mono ?_); rintro e w4 ⟨rfl, hb4⟩; have HB4 := Lib.hid hb4; clear hb4) | fail "no")
              exact ⟨rfl, .inr ⟨rfl, HKc.out.trans (Kt.later HB4.out), l, next, r, HQ.out.later HB4.out, ⟨HI.out.n1, HI.out.l1, HI.out.u1, ⟨HI.out.x1.1, by have := HI.out.x1; omega⟩, HI.out.raw1⟩⟩⟩
          · have e5 : decide (dn % 6 = 5) = false := by simp; omega
            by_cases hu : used < lim ∨ r.n ≤ (l.length : Int)
            · have HU := Lib.hid hu
              clear hu
              go_wp2_with (first | (go_at_call 12; (with_reducible refine (wApp HQ.out.wh HI.out (by omega) HU.out x.k x.lba).mono ?_); rintro e w4 ⟨z, rfl, hk4, u2, l2, n2, r2, hw4, hi4⟩; have HW4 := Lib.hid hw4; have HI4 := Lib.hid hi4; have HK4 := Lib.hid (HKc.out.trans hk4); clear hw4 hi4 hk4) | fail "no")
              go_roundw
              case rel => exact ⟨k + 1, u2, n2, l2, r2, by omega, by go_num, HW4.out, by have := HI4.out; rwa [Nat.add_assoc] at this, HK4.out⟩
              case measure => simp [intOf]; omega
            · have hf : (l.length : Int) < r.n := by omega
              have HF := Lib.hid hf
              clear hf
              obtain rfl : lim = used := by have := HI.out.u1; omega
              go_wp2_with (first | (go_at_call 12; (with_reducible refine (wAppOff HQ.out.wh HI.out rfl HF.out x.k x.lba).mono ?_); rintro e w4 ⟨rfl, hb4⟩; have HB4 := Lib.hid hb4; clear hb4) | fail "no")
              exact ⟨rfl, .inr ⟨rfl, HKc.out.trans (Kt.later HB4.out), l, next, r, HQ.out.later HB4.out, ⟨HI.out.n1, HI.out.l1, HI.out.u1, ⟨HI.out.x1.1, by have := HI.out.x1; omega⟩, HI.out.raw1⟩⟩⟩
    · obtain rfl : n = k := by omega
      go_wp2
      go_end0
      exact .inl ⟨rfl, hK, hW.bel⟩
end Go.Proofs.Ytgcmfcdbgimnjaa
