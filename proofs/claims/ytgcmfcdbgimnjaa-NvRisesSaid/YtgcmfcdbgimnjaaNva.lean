/- The walk of NvRises. No further condition. -/
import Derived.Test.YtgcmfcdbgimnjaaNv9
namespace Go.Proofs.Ytgcmfcdbgimnjaa
open Go.RowKit
attribute [local go_sem ↓] Go.wp_at_zero Go.wp_at_succ

theorem MTui : MT Try.prog 34 31 3 .u64 := ⟨by kernel_rfl, by kernel_rfl, by kernel_rfl, fun _ => by kernel_rfl⟩
set_option maxRecDepth 100000 in
set_option maxHeartbeats 12800000 in
theorem rises_walk (A : Option Addr) (c : Nat) (l : List Av) (w : World) (ra : Rd w A (acs l)) (hok : ∀ x ∈ l, AvOk w x) (hm : l.length ≤ 9223372036854775807) :
    Calls Try.prog 3 #[.slice A l.length c] w fun e w' => e = .returned (.bool true) ∧ Below w.heap.size w w' := by
  have HAW := Lib.hid (awake_ok w)
  by_cases hlong : 60 < l.length
  · go_enter Try.func3, Try.ntmps3
    go_wp2_with (go_at_call 7; refine HAW.out.mono ?_; rintro e w1 ⟨rfl, hb1⟩)
    go_ret
    exact ⟨rfl, hb1⟩
  have hfew : l.length ≤ 60 := by omega
  have HRA := Lib.hid ra
  have HOK := Lib.hid hok
  clear ra hok hlong hm
  have hmm := @run_makeMap_ Try.prog
  go_enter Try.func3, Try.ntmps3
  go_wp2_with (first
    | (go_at_call 7; (with_reducible refine HAW.out.mono ?_); rintro e w0 ⟨rfl, hb0⟩; have HB0 := Lib.hid hb0; clear hb0)
    | (go_at_call 9; (with_reducible refine (pnew_ok (-1) _).mono ?_); rintro e w1 ⟨rfl, hp1, hw1⟩; have HB1 : Hid (Below w.heap.size w w1) := Lib.hid (by rw [hw1]; exact HB0.out.alloc HB0.out.size _); have HP1 := Lib.hid hp1; clear hp1 hw1)
    | (go_at_call 8; (with_reducible refine (newL w w1 HB1.out _ HP1.out HB0.out.size).mono ?_); rintro e w2 ⟨g, rfl, hk2⟩; have HK2 := Lib.hid hk2; clear hk2)
    | (go_at_call 10; (refine (setL HK2.out r7 (by decide)).mono ?_); rintro e w3 ⟨rfl, hk3⟩; have HK3 := Lib.hid hk3; clear hk3)
    | fail "no")
  obtain ⟨h, hh⟩ : ∃ h, h = w0.heap.size := ⟨_, rfl⟩
  obtain ⟨b, hb⟩ : ∃ b, b = w3.heap.size := ⟨_, rfl⟩
  rw [← hh] at HK3
  rw [← hb]
  have hS : Sr w (w3.alloc (.map #[] 0)) g h b 0 (fun _ => none) 1 :=
    ⟨1, [], 1, ⟨HK3.out.later ((Below.refl _ _).alloc (Nat.le_refl _) _), IM.made _ _ _ _ _ hb.symm, by rw [hb]; exact HK3.out.bel.size⟩, ⟨List.Pairwise.nil, fun c hc => by simp at hc, fun s v e => by cases e⟩, by simp, by decide, by decide, by decide⟩
  have HS := Lib.hid hS
  clear hmm hS hh hb HK2 HK3 HP1 HB1 HB0
  obtain ⟨n, hn⟩ : ∃ n, n = l.length := ⟨_, rfl⟩
  have HN := Lib.hid hn
  rw [← hn] at hfew ⊢
  clear hn
  go_loopw [6, 7, 9, 10, 11, 26, 49] (fun _ _ _ _ _ i _ wr => ∃ (k z : Nat) (f : Int → Option Int), k ≤ n ∧ z ≤ 7 * k ∧ i = .int .i64 k ∧ Sr w wr g h b z f (k + 1)) (fun _ _ _ _ _ i _ _ => n - (intOf i).toNat)
  case atStart => exact ⟨0, 0, _, by omega, by omega, rfl, HS.out⟩
  case round =>
    obtain ⟨k, z, f, hk, hz, rfl, hs⟩ := hrel
    by_cases hlt : k < n
    · obtain ⟨x, hx⟩ : ∃ x, l[k]? = some x := ⟨_, List.getElem?_eq_getElem (by have := HN.out; omega)⟩
      have hxo := HOK.out x (List.mem_of_getElem? hx)
      obtain ⟨dn, hd⟩ := Int.eq_ofNat_of_zero_le hxo.d.1
      have hd2 := hxo.d.2
      have HL := Lib.hid hxo.lba
      obtain ⟨a, rfl, c0, c1, c2, c3, c4, c5, c6, c7, c8, c9, c10, c11, c12, c13, c14⟩ := act_at (HRA.out.later hs.bel) hx
      rw [hd] at c0 hd2
      have hs2 := hs.later ((Below.refl _ _).alloc (Nat.le_refl _) (.cells #[.int .u8 dn, .int .u8 x.k, .int .i64 x.lba, .slice x.A x.raw.length x.c, .int .u64 x.dur, .int .u8 x.up, .int .i64 x.r.m, .int .i64 x.r.b, .int .i64 x.r.s, .int .i64 x.r.t, .int .i64 x.r.n, .int .i64 x.r.l, .int .u64 x.r.gen, .int .u64 x.r.dur, .int .i64 x.r.stale] 37))
      have HS2 := Lib.hid hs2
      have g1 : (k : Int) < n := by omega
      clear hs hs2 hx hxo hd
      go_upto_region 14 with (first
        | (go_at_call 11; (with_reducible refine (step_com HS2.out (by omega) _).mono ?_); rintro e w4 ⟨rfl, hs4⟩; have HS4 := Lib.hid hs4; clear hs4)
        | (go_at_call 12; (with_reducible refine (step_app HS2.out (by omega) _ _ HL.out).mono ?_); rintro e w4 ⟨y, rfl, hs4⟩; have HS4 := Lib.hid hs4; clear hs4)
        | fail "no")
      all_goals
        clear c0 c1 c2 c3 c4 c5 c6 c7 c8 c9 c10 c11 c12 c13 c14 HS2 HL
        go_wp2_with (go_at_call 13; (with_reducible refine (step_rec HS4.out).mono ?_); rintro e w5 ⟨v5, m, rfl, hm5, hs5⟩; obtain ⟨Am, cm, rfl, -⟩ := hs5.row.hd; have HM := Lib.hid hm5; have HS5 := Lib.hid hs5; clear hm5 hs5)
        obtain ⟨B, hB⟩ : ∃ B, B = w4.heap.size := ⟨_, rfl⟩
        rw [← hB] at HS5
        clear hB HS4
        go_loopw [7, 9, 10, 11, 49] (fun t _ _ _ i wi => ∃ (j z2 : Nat) (f2 : Int → Option Int) (y : Int), j ≤ m.length ∧ z2 ≤ 7 * k + j ∧ i = .int .i64 j ∧ t = .int .u64 y ∧ (∀ q x, j ≤ q → m[q]? = some x → y < x.seq) ∧ Sm w wi g h b z2 f2 (k + 1 + 1) B (.slice Am m.length cm) m) (fun _ _ _ _ i _ => m.length - (intOf i).toNat)
        case atStart => exact ⟨0, z, f, 0, by omega, by omega, rfl, rfl, fun q x _ hx => (HS5.out.at_ (List.mem_of_getElem? hx)).1, HS5.out⟩
        case round =>
          rename World => wi
          obtain ⟨j, z2, f2, y, hj, hz2, rfl, rfl, hy, hsm⟩ := hrel
          by_cases hjl : j < m.length
          · obtain ⟨s, hs⟩ : ∃ s, m[j]? = some s := ⟨_, List.getElem?_eq_getElem hjl⟩
            have hsmem := List.mem_of_getElem? hs
            obtain ⟨q1, q2, q3, q4⟩ := hsm.at_ hsmem
            have q5 := hy j s (Nat.le_refl _) hs
            obtain ⟨am, rfl, a0, a1, a2, a3⟩ := rd_at (Rd.of_own hsm.row.row) hs
            have hba := (Below.refl wi.heap.size wi).alloc (Nat.le_refl _) (.cells #[.int .u64 s.seq, .int .i64 s.kind, .int .i64 s.lba, .slice s.A s.raw.length s.c] 45)
            have hsm2 := hsm.later hba
            have hnw := Blk.new wi 45 #[.int .u64 s.seq, .int .i64 s.kind, .int .i64 s.lba, .slice s.A s.raw.length s.c]
            have x0 := hnw.at_ (i := 0) (u := .int .u64 s.seq) rfl
            have x2 := hnw.at_ (i := 2) (u := .int .i64 s.lba) rfl
            have hwf : (Lit.int .u64 s.seq).wf = true := by simp [Lit.wf, IntKind.min, IntKind.max, IntKind.bits, IntKind.signed]; omega
            have hlk := hsm2.im.look_ok MTui hwf
            have HUP : Hid (∀ q x, j + 1 ≤ q → m[q]? = some x → s.seq < x.seq) := Lib.hid fun q x hq hx => hsm.up hs hx (by omega)
            have HWF := Lib.hid hwf
            have HLB := Lib.hid q3
            have HME := Lib.hid hsmem
            have HS6 := Lib.hid hsm2
            have HM7 := HM.out
            have d1 : decide (s.seq ≤ y) = false := by simp; omega
            have g2 : (j : Int) < m.length := by omega
            clear hs hsmem hsm hsm2 hba hnw hwf hy q3
            rcases hf : f2 s.seq with _ | u
            all_goals rw [hf] at hlk
            · clear q4
              go_wp2_with (at_mapUpdate; (refine wpList_store rfl _ _ _ rfl MTui rfl HS6.out.im (by unfold maxLen; omega) rfl rfl HWF.out HLB.out ?_); intro w7 him7 hg7; have HS7 := Lib.hid (HS6.out.store HME.out him7 hg7); clear him7 hg7)
              go_roundw
              case rel => exact ⟨j + 1, z2 + 1, _, _, by omega, by omega, by go_num, rfl, HUP.out, HS7.out⟩
              case measure => simp [intOf]; omega
            · obtain rfl := q4 u hf
              clear q4
              go_wp2_with (at_mapUpdate; (refine wpList_store rfl _ _ _ rfl MTui rfl HS6.out.im (by unfold maxLen; omega) rfl rfl HWF.out HLB.out ?_); intro w7 him7 hg7; have HS7 := Lib.hid (HS6.out.store HME.out him7 hg7); clear him7 hg7)
              go_roundw
              case rel => exact ⟨j + 1, z2 + 1, _, _, by omega, by omega, by go_num, rfl, HUP.out, HS7.out⟩
              case measure => simp [intOf]; omega
          · obtain rfl : j = m.length := by omega
            have HS6 := Lib.hid hsm.back
            have HM7 := HM.out
            clear hsm hy
            go_wp2_with (go_at_call 14; (refine (step_len HS6.out).mono ?_); rintro e w8 ⟨y8, hy8, rfl, rfl⟩)
            go_roundw
            case rel => exact ⟨k + 1, z2, _, by omega, by omega, by go_num, HS6.out⟩
            case measure => simp [intOf]; omega
    · obtain rfl : k = n := by omega
      go_wp2
      go_ret
      exact ⟨rfl, hs.bel⟩
theorem nvRises_true {H : Type} {enc : TypeId × Value → H} {r : Reach} {b0 : Nat} (v : Value) (d : DataW H) (ps : List MemPlace) (w : World) (k : DataW.Trod enc Try.prog w 0 (fun _ => true) true 22 v d ps) (o : Value.okWide Try.prog w r b0 22 v) {Z : Prop} (_ : Z) :
    Calls Try.prog 3 #[v] w fun e w' => e = .returned (.bool true) ∧ Below w.heap.size w w' := by
  obtain ⟨A, c, l, rfl, ra, h1, h2, hok⟩ := acts_of k o
  exact rises_walk A c l w ra hok (by unfold maxLen at h2; omega)
end Go.Proofs.Ytgcmfcdbgimnjaa
