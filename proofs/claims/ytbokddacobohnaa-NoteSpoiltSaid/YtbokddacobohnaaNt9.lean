/- The walk of NoteSpoilt. No further condition. -/
import Derived.Test.YtbokddacobohnaaNt8
namespace Go.Proofs.Ytbokddacobohnaa
open Go.RowKit
attribute [local go_sem ↓] Go.wp_at_zero Go.wp_at_succ

/-- A row of the call's own, one of its bytes another one. -/
theorem own_turn {w : World} {base g n c i : Nat} {xs : List Int} {y : Int} (k : w.ownsRow base 5 1 (.slice (some ⟨g, 0, none⟩) n c) n (byv xs)) (_hi : i < n) :
    (w.setCell ⟨g, i, none⟩ (.int .u8 y)).ownsRow base 5 1 (.slice (some ⟨g, 0, none⟩) n c) n (byv (xs.set i y)) ∧ Below base w (w.setCell ⟨g, i, none⟩ (.int .u8 y)) ∧ w.frozen? ⟨g, i, none⟩ = false := by
  obtain ⟨h1, h2⟩ := k
  rcases h2 with ⟨e, -⟩ | ⟨g', cap, cur, e, hb, hh, hnc, hm, hs, hx⟩
  · cases e
  · injection e with e e2 e3
    injection e with e
    injection e with e
    subst e e3
    have hk : Blk w g 5 cur := hh
    have hset : (w.setCell ⟨g, i, none⟩ (.int .u8 y)).heap[g]? = some (.cells (cur.setIfInBounds i (.int .u8 y)) 5 (0, 0)) := hk.set_ i _
    refine ⟨⟨by simpa [byv] using h1, .inr ⟨g, c, _, rfl, hb, hset, hnc, hm, by simpa using hs, ?_⟩⟩, (Below.refl _ _).setCell hb _, hk.frozen i⟩
    rw [Array.toList_setIfInBounds, List.take_set, hx]
    simp [byv, List.map_set]
set_option maxRecDepth 100000 in
set_option maxHeartbeats 12800000 in
theorem spoilt_walk (A : Option Addr) (c : Nat) (l0 : List En) (seq n1 at_ by_ : Nat) (slots : Int) (sb : Bool) (w : World) (ra : Rd w A (sls l0)) (hm : l0.length ≤ 9223372036854775807) (hwf : SlOk l0) (hs : seq < 18446744073709551616) (hn : n1 < 65536) (ha8 : at_ < 256) (hb8 : by_ < 256) (s0 : -128 ≤ slots) (s1 : slots ≤ 127) :
    Calls Try.prog 6 #[.int .u64 seq, .int .u16 n1, .slice A l0.length c, .int .u8 at_, .int .u8 by_, .int .i8 slots, .bool sb] w fun e w' => e = .returned (.bool true) ∧ Below w.heap.size w w' := by
  have HAW := Lib.hid (awake_ok w)
  by_cases hlong : 20 < l0.length
  · go_enter Try.func6, Try.ntmps6
    go_wp2_with (go_at_call 7; refine HAW.out.mono ?_; rintro e w1 ⟨rfl, hb1⟩)
    go_ret
    exact ⟨rfl, hb1⟩
  have hfew : l0.length ≤ 20 := by omega
  obtain ⟨i0, hi0, hz0, hz1, hz2⟩ := info_parts (show (Try.prog.info? 5).map (fun i => (i.zero, i.size, i.bytes)) = some (some (.int .u8 0), 1, 1) by kernel_rfl)
  obtain ⟨l, hl⟩ : ∃ l, l = l0.map mk1 := ⟨_, rfl⟩
  have hll : l.length = l0.length := by rw [hl, List.length_map]
  have hok : EnOk l := by rw [hl]; exact enOk_make l0 hwf
  obtain ⟨k, hk⟩ : ∃ k, k = 40 - (sealL (noteL seq n1 l)).length := ⟨_, rfl⟩
  have hpad : pad (sealL (noteL seq n1 l)) (40 : Int).toNat = sealL (noteL seq n1 l) ++ List.replicate k 0 := by rw [pad_eq, hk]; rfl
  have hnl : (sealL (noteL seq n1 l)).length = 15 + 5 * l.length := by rw [sealL_len, noteL_len]; omega
  have hxn : (sealL (noteL seq n1 l) ++ List.replicate k (0 : Int)).length ≤ 200 ∧ 40 ≤ (sealL (noteL seq n1 l) ++ List.replicate k (0 : Int)).length ∧ 15 + 5 * l.length ≤ (sealL (noteL seq n1 l) ++ List.replicate k (0 : Int)).length := by
    rw [List.length_append, hnl, List.length_replicate]; omega
  have hxo : Oct (sealL (noteL seq n1 l) ++ List.replicate k 0) := (sealL_oct (noteL_oct seq n1 l)).app fun x hx => by rw [List.eq_of_mem_replicate hx]; omega
  obtain ⟨xs, hxs⟩ : ∃ xs, xs = sealL (noteL seq n1 l) ++ List.replicate k 0 := ⟨_, rfl⟩
  have hmk := fun W (hW : Rd W A (sls l0)) => make_ok A c l0 seq n1 W hW (by omega) hwf (by omega)
  rw [← hl, ← hll] at hmk
  have htel := fun W B d (hW : Rd W B (ens l)) => tells_ok B d l seq n1 40 W hW (by omega) hs (by omega) (fun e he => ⟨by have := (hok e he).1; omega, (hok e he).2.1⟩) (by omega)
  rw [hpad] at htel
  rw [← hxs] at htel hxn hxo
  have HMK := Lib.hid hmk
  have HTEL := Lib.hid htel
  have HRA := Lib.hid ra
  obtain ⟨hx200, hx40, hxL⟩ := hxn
  obtain ⟨i, hi⟩ : ∃ i, i = at_ % xs.length := ⟨_, rfl⟩
  have hil : i < xs.length := by rw [hi]; exact Nat.mod_lt _ (by omega)
  obtain ⟨x, hx⟩ : ∃ x, xs[i]? = some x := ⟨_, List.getElem?_eq_getElem hil⟩
  have hxx := hxo x (List.mem_of_getElem? hx)
  obtain ⟨x, rfl⟩ := Int.eq_ofNat_of_zero_le hxx.1
  have hxor := u8_xor_nat x by_ (by omega) hb8
  have hy : x ^^^ by_ < 256 := Nat.xor_lt_two_pow (n := 8) (by omega) (by omega)
  obtain ⟨y, hyy⟩ : ∃ y, y = x ^^^ by_ := ⟨_, rfl⟩
  rw [← hyy] at hxor hy
  obtain ⟨ts, hts⟩ : ∃ ts, ts = xs.set i (y : Int) := ⟨_, rfl⟩
  have htl : ts.length = xs.length := by rw [hts, List.length_set]
  have hto : Oct ts := by
    rw [hts]
    intro q hq
    rcases List.mem_or_eq_of_mem_set hq with h | h
    · exact hxo q h
    · omega
  have hmod : (at_ : Int) % (xs.length : Int) = i := by rw [hi]; rfl
  have hmodt : (at_ : Int).tmod (xs.length : Int) = i := by rw [Int.tmod_eq_emod_of_nonneg (by omega), hmod]
  obtain ⟨t, ht⟩ : ∃ t, t = (l.length : Int) + slots := ⟨_, rfl⟩
  have htt : (l.length : Int) + slots = t := ht.symm
  have hw8 : IntKind.i64.wrap (at_ : Int) = at_ := IntWalk.i64_in _ (by omega)
  have hwt : IntKind.i64.wrap t = t := IntWalk.i64_in _ (by omega)
  have hws : IntKind.i64.wrap slots = slots := IntWalk.i64_in _ (by omega)
  obtain ⟨N, hN⟩ : ∃ N, N = xs.length := ⟨_, rfl⟩
  obtain ⟨L, hL⟩ : ∃ L, L = 15 + 5 * l.length := ⟨_, rfl⟩
  have hLe : (15 : Int) + 5 * (l.length : Int) = L := by omega
  have hlt : decide (20 < l.length) = false := by simp; omega
  have hlt2 : decide ((20 : Int) < (l.length : Int)) = false := by simp; omega
  have hlf : l.length ≤ 20 := by omega
  have hcell : ∀ W g, Rd W (some ⟨g, 0, none⟩) (byv xs) → W.cell? ⟨g, i, none⟩ = some (.int .u8 x) := fun W g hW => by
    obtain ⟨_, e, h⟩ := hW i (.int .u8 x) (by simp [byv, hx])
    injection e with e
    subst e
    rw [add_zero_addr, Nat.zero_add] at h
    exact h
  have HCELL := Lib.hid hcell
  have HTS := Lib.hid hts
  have HNN := Lib.hid hN
  rw [← hN] at htel hx200 hx40 hxL hmod hmodt hil htl
  have HTEL := Lib.hid htel
  have hil2 : (i : Int) < (N : Int) := by omega
  have hi0' : (0 : Int) ≤ (i : Int) := by omega
  have hN2 : (N : Int) ≤ 200 := by omega
  have hNnz : ((N : Int) == 0) = false := by simp; omega
  rw [← hll]
  rcases sb with _ | _
  · obtain ⟨sq, cd, m, nx, es, hbo⟩ := both_of ts t (by omega) hto
    rw [htl] at hbo
    have HBO := Lib.hid hbo
    have HX40 := Lib.hid hx40
    have HIL := Lib.hid hil
    clear hwf hl hok hk hpad hnl hxo hxs hmk htel ra hlong hm hfew hll hxL hts htl hto hx hxx hyy hi ht hN hL hcell hbo hs
    go_enter Try.func6, Try.ntmps6
    go_wp2_with (first
    | (go_at_call 7; (with_reducible refine HAW.out.mono ?_); rintro e w1 ⟨rfl, hb1⟩; have HB1 := Lib.hid hb1; have HR1 := Lib.hid (HRA.out.later hb1); clear hb1)
    | (go_at_call 8; (with_reducible refine (HMK.out _ HR1.out).mono ?_); rintro e w2 ⟨v2, rfl, hown2, hb2⟩; obtain ⟨A2, c2, rfl, hr2, -, -⟩ := own_formc hown2; have HB2 := Lib.hid (HB1.out.trans (hb2.mono HB1.out.size)); have HR2 := Lib.hid hr2; clear hown2 hb2 hr2)
    | (go_at_call 13; (with_reducible refine (HTEL.out _ _ _ HR2.out).mono ?_); rintro e w3 ⟨⟨r3, rfl, hown3⟩, hb3⟩; obtain ⟨g3, c3, cur3, rfl, hg3, -, -, -⟩ := own_block hown3 (by have := HX40.out; omega); have hr3 := Rd.of_own hown3; have hq3 := HCELL.out _ _ hr3; obtain ⟨ho4, hb4, hf4⟩ := own_turn (y := (y : Int)) hown3 HIL.out; rw [← HTS.out] at ho4; obtain ⟨A4', c4', e4, hr4, hc4, -⟩ := own_formc ho4; injection e4 with e41 e42 e43; subst e41 e43; have HR4 := Lib.hid hr4; have HC4 := Lib.hid hc4; have HB3 := Lib.hid (HB2.out.trans (hb3.mono HB2.out.size)); have HB4 := Lib.hid (HB3.out.trans (hb4.mono HB2.out.size)); clear hown3 hb3 hr3 ho4 hb4 hr4 hc4)
    | (go_at_call 12; (with_reducible refine (HBO.out.dec _ _ _ HR4.out HC4.out).mono ?_); rintro e wd ⟨⟨Bd, dd, rfl, hrd⟩, hbd⟩; have HBd := Lib.hid (HB4.out.trans (hbd.mono HB4.out.size)); have hbda := (Below.refl wd.heap.size wd).alloc (Nat.le_refl _) (.cells #[.int .u64 sq, .int .i64 nx, .slice Bd m dd] 28); have HXd := Lib.hid (Blk.new wd 28 #[.int .u64 sq, .int .i64 nx, .slice Bd m dd]); have HRd := Lib.hid ((HR4.out.later hbd).later hbda); have HEd := Lib.hid (hrd.later hbda); have HBd' := Lib.hid (HBd.out.trans (hbda.mono HBd.out.size)); clear hrd hbd hbda)
    | (go_at_call 15; (with_reducible refine (HBO.out.rea _ _ _ HRd.out HC4.out).mono ?_); rintro e wr ⟨⟨Br, dr, rfl, hrr⟩, hbr⟩; have HBr := Lib.hid (HBd'.out.trans (hbr.mono HBd'.out.size)); have hbra := (Below.refl wr.heap.size wr).alloc (Nat.le_refl _) (.cells #[.int .u64 sq, .int .i64 nx, .slice Br m dr] 28); have HYr := Lib.hid (Blk.new wr 28 #[.int .u64 sq, .int .i64 nx, .slice Br m dr]); have HXr := Lib.hid ((HXd.out.later hbr).later hbra); have HEr := Lib.hid ((HEd.out.later hbr).later hbra); have HFr := Lib.hid (hrr.later hbra); have HBr' := Lib.hid (HBr.out.trans (hbra.mono HBr.out.size)); clear hrr hbr hbra; obtain ⟨x0, x1, x2⟩ := HXr.out.cells3; obtain ⟨y0, y1, y2⟩ := HYr.out.cells3)
    | (go_at_call 11; (with_reducible refine (HBO.out.sam _ _ _ _ _ HEr.out HFr.out).mono ?_); rintro e ws ⟨rfl, hbs⟩; have HBs := Lib.hid (HBr'.out.trans (hbs.mono HBr'.out.size)); clear hbs))
    go_ret
    exact ⟨by simp, HBs.out⟩
  · obtain ⟨ys, hys⟩ : ∃ ys, ys = ts.take (11 + 5 * l.length) := ⟨_, rfl⟩
    obtain ⟨zs, hzs⟩ : ∃ zs, zs = ts.drop (15 + 5 * l.length) := ⟨_, rfl⟩
    have hyl : ys.length = 11 + 5 * l.length := by rw [hys, List.length_take]; omega
    have hzl : zs.length = N - (15 + 5 * l.length) := by rw [hzs, List.length_drop, htl]
    have hyo : Oct ys := by rw [hys]; exact hto.take _
    have hzo : Oct zs := by rw [hzs]; exact hto.drop _
    obtain ⟨M, hM⟩ : ∃ M, M = 11 + 5 * l.length := ⟨_, rfl⟩
    have hLM : (L : Int) - 4 = M := by omega
    have hLM3 : IntKind.i64.wrap (M : Int) = M := IntWalk.i64_in _ (by omega)
    have hseal := fun W A c (hW : Rd W A (byv ts)) => sealed_ok A c ys W (by rw [hys, byv_take]; exact hW.take _) (by omega) hyo
    rw [hyl, ← hM] at hseal
    have hxo : Oct (sealL ys ++ zs) := (sealL_oct hyo).app hzo
    have hxl : (sealL ys ++ zs).length ≤ 1000 := by rw [List.length_append, sealL_len]; omega
    have hsl : (sealL ys).length = L := by rw [sealL_len]; omega
    obtain ⟨sq, cd, m, nx, es, hbo⟩ := both_of (sealL ys ++ zs) t (by omega) hxo
    rw [show (sealL ys ++ zs).length = L + zs.length by rw [List.length_append, hsl]] at hbo
    have hcl : zs.length ≤ 300 := by omega
    have hL2 : L ≤ 265 := by omega
    have HZS := Lib.hid hzs
    have HZL : Hid (zs.length = N - L) := Lib.hid (by rw [hzl, hL])
    have HTL := Lib.hid htl
    have HLL := Lib.hid hL
    have HLN : Hid (L ≤ N) := Lib.hid (by omega)
    have HML : Hid (M ≤ L) := Lib.hid (by omega)
    have HSEAL := Lib.hid hseal
    have HSL := Lib.hid hsl
    have HBO := Lib.hid hbo
    have HX40 := Lib.hid hx40
    have HIL := Lib.hid hil
    clear hwf hl hok hk hpad hnl hxo hxs hmk htel ra hlong hm hfew hll hxL hts htl hto hx hxx hyy hi ht hN hL hcell hbo hs hys hzs hyl hzl hyo hzo hM hseal hxl hsl
    go_enter Try.func6, Try.ntmps6
    go_wp2_with (first
    | (go_at_call 7; (with_reducible refine HAW.out.mono ?_); rintro e w1 ⟨rfl, hb1⟩; have HB1 := Lib.hid hb1; have HR1 := Lib.hid (HRA.out.later hb1); clear hb1)
    | (go_at_call 8; (with_reducible refine (HMK.out _ HR1.out).mono ?_); rintro e w2 ⟨v2, rfl, hown2, hb2⟩; obtain ⟨A2, c2, rfl, hr2, -, -⟩ := own_formc hown2; have HB2 := Lib.hid (HB1.out.trans (hb2.mono HB1.out.size)); have HR2 := Lib.hid hr2; clear hown2 hb2 hr2)
    | (go_at_call 13; (with_reducible refine (HTEL.out _ _ _ HR2.out).mono ?_); rintro e w3 ⟨⟨r3, rfl, hown3⟩, hb3⟩; obtain ⟨g3, c3, cur3, rfl, hg3, -, -, -⟩ := own_block hown3 (by have := HX40.out; omega); have hr3 := Rd.of_own hown3; have hq3 := HCELL.out _ _ hr3; obtain ⟨ho4, hb4, hf4⟩ := own_turn (y := (y : Int)) hown3 HIL.out; rw [← HTS.out] at ho4; obtain ⟨A4', c4', e4, hr4, hc4, -⟩ := own_formc ho4; injection e4 with e41 e42 e43; subst e41 e43; have HR4 := Lib.hid hr4; have HC4 := Lib.hid hc4; have HB3 := Lib.hid (HB2.out.trans (hb3.mono HB2.out.size)); have HB4 := Lib.hid (HB3.out.trans (hb4.mono HB2.out.size)); clear hown3 hb3 hr3 ho4 hb4 hr4 hc4))
    generalize w3.setCell ⟨g3, i, none⟩ (.int .u8 (y : Int)) = W4 at HR4 HB4 ⊢
    have hcut4 := fun W => cut_lo_ 31 1 Try.underlying31 (fun _ => by kernel_rfl) (some ⟨g3, 0, none⟩) N c3 M (M : Int) rfl (by have := HC4.out; have := HLN.out; have := HML.out; omega) W
    obtain ⟨A2', hA2⟩ : ∃ A2', A2' = (if c3 = L then some (⟨g3, 0, none⟩ : Addr) else (some (⟨g3, 0, none⟩ : Addr)).map (·.add (L * 1))) := ⟨_, rfl⟩
    have hcut := fun W => cut_hi_ 31 1 Try.underlying31 (fun _ => by kernel_rfl) (some ⟨g3, 0, none⟩) N c3 L (L : Int) rfl HLN.out W
    rw [← hA2, ← HZL.out] at hcut
    have hR2 : ∀ W, Rd W (some ⟨g3, 0, none⟩) (byv ts) → Rd W A2' (byv zs) := fun W hW => by
      have := hW.cutg (size := 1) (c := c3) (n := L) (len := N) (by simp [byv_len, HTL.out]) HC4.out
      rw [← hA2, Nat.mul_one, ← byv_drop, HLL.out, ← HZS.out] at this
      exact this
    have HR2x := Lib.hid hR2
    clear hA2 hR2
    have HRAd : Hid (Rd W4.drew (some ⟨g3, 0, none⟩) (byv ts)) := Lib.hid (HR4.out.later (below_drewN (Below.refl _ _) 1))
    have HB4d : Hid (Below w.heap.size w W4.drew) := Lib.hid (below_drewN HB4.out 1)
    have hLN3 : (L : Int) ≤ (N : Int) := by have := HLN.out; omega
    have hLc3 : (L : Int) ≤ (c3 : Int) := by have := HLN.out; have := HC4.out; omega
    go_region_held3 (fun _ => True) (exact trivial)
      (first
        | (go_at_call 14; (with_reducible refine (HSEAL.out _ _ _ HRAd.out).mono ?_); rintro e w5 ⟨r5, rfl, hown5, hb5⟩; have HB5 := Lib.hid (HB4d.out.trans (hb5.mono HB4d.out.size)); obtain ⟨A5, c5, rfl, -, -⟩ := own_form hown5; rw [HSL.out] at hown5 ⊢; have HO5 := Lib.hid (ownsRow_base hown5 HB4d.out.size); have HR5' := Lib.hid (HR2x.out _ (HRAd.out.later hb5)); clear hown5 hb5)
        | (refine step_append_any _ (by rfl) _ _ 31 (by rfl) w.heap.size 5 i0 (.int .u8 0) 1 1 Try.underlying31 hi0 hz0 hz1 hz2 rfl (by decide) (.slice A5 L c5) L (byv (sealL ys)) (by rfl) HO5.out A2' zs.length (c3 - L) (byv zs) (by rfl) (by simp [byv_len]) HR5'.out (byv_one _) (by unfold maxLen; omega) (by omega) HB5.out.size ?_; intro v6 w6 hown6 hg6 hat6; have HB6 := Lib.hid (HB5.out.grown hg6 HB5.out.size (fun b hb => (HO5.out.lt b hb).1)); rw [← byv_app] at hown6; obtain ⟨A6, c6, rfl, hr6, hc6, -⟩ := own_formc hown6; have HR6 := Lib.hid hr6; have HC6 := Lib.hid hc6; clear hown6 hg6 hat6 hr6 hc6))
    go_wp2_with (first
      | (go_at_call 12; (with_reducible refine (HBO.out.dec _ _ _ HR6.out HC6.out).mono ?_); rintro e wd ⟨⟨Bd, dd, rfl, hrd⟩, hbd⟩; have HBd := Lib.hid (HB6.out.trans (hbd.mono HB6.out.size)); have hbda := (Below.refl wd.heap.size wd).alloc (Nat.le_refl _) (.cells #[.int .u64 sq, .int .i64 nx, .slice Bd m dd] 28); have HXd := Lib.hid (Blk.new wd 28 #[.int .u64 sq, .int .i64 nx, .slice Bd m dd]); have HRd := Lib.hid ((HR6.out.later hbd).later hbda); have HEd := Lib.hid (hrd.later hbda); have HBd' := Lib.hid (HBd.out.trans (hbda.mono HBd.out.size)); clear hrd hbd hbda)
      | (go_at_call 15; (with_reducible refine (HBO.out.rea _ _ _ HRd.out HC6.out).mono ?_); rintro e wr ⟨⟨Br, dr, rfl, hrr⟩, hbr⟩; have HBr := Lib.hid (HBd'.out.trans (hbr.mono HBd'.out.size)); have hbra := (Below.refl wr.heap.size wr).alloc (Nat.le_refl _) (.cells #[.int .u64 sq, .int .i64 nx, .slice Br m dr] 28); have HYr := Lib.hid (Blk.new wr 28 #[.int .u64 sq, .int .i64 nx, .slice Br m dr]); have HXr := Lib.hid ((HXd.out.later hbr).later hbra); have HEr := Lib.hid ((HEd.out.later hbr).later hbra); have HFr := Lib.hid (hrr.later hbra); have HBr' := Lib.hid (HBr.out.trans (hbra.mono HBr.out.size)); clear hrr hbr hbra; obtain ⟨x0, x1, x2⟩ := HXr.out.cells3; obtain ⟨y0, y1, y2⟩ := HYr.out.cells3)
      | (go_at_call 11; (with_reducible refine (HBO.out.sam _ _ _ _ _ HEr.out HFr.out).mono ?_); rintro e ws ⟨rfl, hbs⟩; have HBs := Lib.hid (HBr'.out.trans (hbs.mono HBr'.out.size)); clear hbs))
    go_ret
    exact ⟨by simp, HBs.out⟩
theorem noteSpoilt_true (seq next : Int) (A : Option Addr) (len c : Nat) (a b slots : Int) (sb : Bool) (w : World) (hs : (Lit.int .u64 seq).wf = true) (hn : (Lit.int .u16 next).wf = true)
    (h : len ≤ maxLen ∧ ∀ i, i < len → ∃ x, A = some x ∧ ∃ (c0 : Int) (c1 : Int), w.cell? (x.add (i * 2 + 0)) = some (.int .u8 c0) ∧ w.cell? (x.add (i * 2 + 1)) = some (.int .u32 c1) ∧ (Lit.int .u8 c0).wf = true ∧ (Lit.int .u32 c1).wf = true)
    (ha : (Lit.int .u8 a).wf = true) (hb : (Lit.int .u8 b).wf = true) (hsl : (Lit.int .i8 slots).wf = true) :
    Calls Try.prog 6 #[.int .u64 seq, .int .u16 next, .slice A len c, .int .u8 a, .int .u8 b, .int .i8 slots, .bool sb] w fun e w' => e = .returned (.bool true) ∧ Below w.heap.size w w' := by
  obtain ⟨l, rfl, ra, hwf⟩ := argS_of h
  have h1 := u64_in_ hs
  have h2 := u16_in_ hn
  have h3 := u8_in_ ha
  have h4 := u8_in_ hb
  have h5 := i8_in_ hsl
  obtain ⟨seq, rfl⟩ := Int.eq_ofNat_of_zero_le h1.1
  obtain ⟨next, rfl⟩ := Int.eq_ofNat_of_zero_le h2.1
  obtain ⟨a, rfl⟩ := Int.eq_ofNat_of_zero_le h3.1
  obtain ⟨b, rfl⟩ := Int.eq_ofNat_of_zero_le h4.1
  exact spoilt_walk A c l seq next a b slots sb w ra (by have := h.1; unfold maxLen at this; omega) hwf (by omega) (by omega) (by omega) (by omega) h5.1 h5.2
end Go.Proofs.Ytbokddacobohnaa
