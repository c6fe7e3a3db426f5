/- The walk of SuperDecodes. No further condition. -/
import Derived.Test.YtcgodkahkgpojaaSq
namespace Go.Proofs.Ytcgodkahkgpojaa
open Go.RowKit
attribute [local go_sem ↓] Go.wp_at_zero Go.wp_at_succ

/-- What both ways of reading answer. -/
structure Both (xs : List Int) (q : Nat) (m b s t n l k cd : Int) : Prop where
  dec : ∀ W A c, Rd W A (byv xs) → q ≤ c → Calls Try.prog 11 #[.slice A q c] W fun e w' => e = .returned (.tuple #[.agg #[.int .i64 m, .int .i64 b, .int .i64 s, .int .i64 t, .int .i64 n, .int .i64 l, .int .i64 k], .int .i64 cd]) ∧ Below W.heap.size W w'
  rea : ∀ W A c, Rd W A (byv xs) → q ≤ c → Calls Try.prog 14 #[.slice A q c] W fun e w' => e = .returned (.tuple #[.agg #[.int .i64 m, .int .i64 b, .int .i64 s, .int .i64 t, .int .i64 n, .int .i64 l, .int .i64 k], .int .i64 cd]) ∧ Below W.heap.size W w'
theorem dLab_form (xs : List Int) : ∃ m b s t n l k : Int, dLab xs = #[.int .i64 m, .int .i64 b, .int .i64 s, .int .i64 t, .int .i64 n, .int .i64 l, .int .i64 k] := by
  unfold dLab gLab
  split
  · split
    · exact ⟨_, _, _, _, _, _, _, rfl⟩
    · exact ⟨0, 0, 0, 0, 0, 0, 0, rfl⟩
  · exact ⟨0, 0, 0, 0, 0, 0, 0, rfl⟩
theorem both_of (xs : List Int) (hx : xs.length ≤ 10000) (ho : Oct xs) : ∃ m b s t n l k cd, Both xs xs.length m b s t n l k cd := by
  obtain ⟨m, b, s, t, n, l, k, e⟩ := dLab_form xs
  refine ⟨m, b, s, t, n, l, k, dCode xs, fun W A c hr hc => ?_, fun W A c hr hc => ?_⟩
  · have := decode_ok A c xs W hr (by omega) hc ho
    rw [e] at this
    exact this
  · have := reads_ok A c xs W hr (by omega) hc ho
    rw [e] at this
    exact this
set_option maxRecDepth 100000 in
set_option maxHeartbeats 12800000 in
theorem decodes_walk (A : Option Addr) (c : Nat) (xs : List Int) (sb : Bool) (w : World) (ra : Rd w A (byv xs)) (hc : xs.length ≤ c) (ho : Oct xs) (hm : xs.length ≤ 9223372036854775807) :
    Calls Try.prog 5 #[.slice A xs.length c, .bool sb] w fun e w' => e = .returned (.bool true) ∧ Below w.heap.size w w' := by
  have HAW := Lib.hid (awake_ok w)
  by_cases hlong : 600 < xs.length
  · go_enter Try.func5, Try.ntmps5
    go_wp2_with (go_at_call 7; refine HAW.out.mono ?_; rintro e w1 ⟨rfl, hb1⟩)
    go_ret
    exact ⟨rfl, hb1⟩
  have hfew : xs.length ≤ 600 := by omega
  have hfi : ((xs.length : Nat) : Int) ≤ 600 := by omega
  have HRA := Lib.hid ra
  have HC := Lib.hid hc
  by_cases hcond : sb = true ∧ 22 ≤ xs.length
  · obtain ⟨rfl, hl⟩ := hcond
    obtain ⟨i0, hi0, hz0, hz1, hz2⟩ := info_parts (show (Try.prog.info? 5).map (fun i => (i.zero, i.size, i.bytes)) = some (some (.int .u8 0), 1, 1) by kernel_rfl)
    obtain ⟨ys, hys⟩ : ∃ ys, ys = xs.take 18 := ⟨_, rfl⟩
    obtain ⟨zs, hzs⟩ : ∃ zs, zs = xs.drop 22 := ⟨_, rfl⟩
    have hyl : ys.length = 18 := by rw [hys, List.length_take]; omega
    have hzl : zs.length = xs.length - 22 := by rw [hzs, List.length_drop]
    have hyo : Oct ys := by rw [hys]; exact ho.take _
    have hzo : Oct zs := by rw [hzs]; exact ho.drop _
    have hcut4 := fun W => cut_lo_ 31 1 Try.underlying31 (fun _ => by kernel_rfl) A xs.length c 18 18 rfl (by omega) W
    obtain ⟨A2, hA2⟩ : ∃ A2, A2 = (if c = 22 then A else A.map (·.add (22 * 1))) := ⟨_, rfl⟩
    have hcut := fun W => cut_hi_ 31 1 Try.underlying31 (fun _ => by kernel_rfl) A xs.length c 22 22 rfl (by omega) W
    rw [← hA2, ← hzl] at hcut
    have hR2 : ∀ W, Rd W A (byv xs) → Rd W A2 (byv zs) := fun W hW => by
      have := hW.cutg (size := 1) (c := c) (n := 22) (len := xs.length) (by simp [byv_len]) hc
      rw [← hA2, Nat.mul_one, ← byv_drop, ← hzs] at this
      exact this
    have hseal := fun W (hW : Rd W A (byv xs)) => sealed_ok A c ys W (by rw [hys, byv_take]; exact hW.take _) (by omega) hyo
    rw [hyl] at hseal
    have hxo : Oct (sealL ys ++ zs) := (sealL_oct hyo).app hzo
    have hxl : (sealL ys ++ zs).length ≤ 1000 := by rw [List.length_append, sealL_len]; omega
    have hsl : (sealL ys).length = 22 := by rw [sealL_len]; omega
    obtain ⟨m, b, s, t, n, l, k, cd, hbo⟩ := both_of (sealL ys ++ zs) (by omega) hxo
    have HBO := Lib.hid hbo
    have hq := fun W => lb_eql m b s t n l k W
    have HSEAL := Lib.hid hseal
    have HR2 := Lib.hid hR2
    have HSL := Lib.hid hsl
    have d3 : decide ((22 : Int) ≤ (xs.length : Int)) = true := by simp; omega
    have d3n : decide (22 ≤ xs.length) = true := by simp; omega
    have hcl : zs.length ≤ 600 := by omega
    clear ra ho hc hys hzs hyl hzl hyo hzo hA2 hR2 hseal hxo hxl hsl hbo hlong hm
    go_enter Try.func5, Try.ntmps5
    go_wp2_with (go_at_call 7; (with_reducible refine HAW.out.mono ?_); rintro e w1 ⟨rfl, hb1⟩; have HB1 := Lib.hid hb1; have HRA1 := Lib.hid (HRA.out.later hb1); clear hb1)
    have HRAd : Hid (Rd w1.drew A (byv xs)) := Lib.hid (HRA1.out.later (below_drewN (Below.refl _ _) 1))
    have HB1d : Hid (Below w.heap.size w w1.drew) := Lib.hid (below_drewN HB1.out 1)
    have hlI : (22 : Int) ≤ (xs.length : Int) := by omega
    have hcI : (22 : Int) ≤ (c : Int) := by have := HC.out; omega
    go_region_held3 (fun _ => True) (exact trivial)
      (first
        | (go_at_call 13; (with_reducible refine (HSEAL.out _ HRAd.out).mono ?_); rintro e w2 ⟨r2, rfl, hown2, hb2⟩; have HB2 := Lib.hid (HB1d.out.trans (hb2.mono HB1d.out.size)); obtain ⟨A3, c3, rfl, -, -⟩ := own_form hown2; rw [HSL.out] at hown2 ⊢; have HO2 := Lib.hid (ownsRow_base hown2 HB1d.out.size); have HR2' := Lib.hid (HR2.out _ (HRAd.out.later hb2)); clear hown2 hb2)
        | (refine step_append_any _ (by rfl) _ _ 31 (by rfl) w.heap.size 5 i0 (.int .u8 0) 1 1 Try.underlying31 hi0 hz0 hz1 hz2 rfl (by decide) (.slice A3 22 c3) 22 (byv (sealL ys)) (by rfl) HO2.out A2 zs.length (c - 22) (byv zs) (by rfl) (by simp [byv_len]) HR2'.out (byv_one _) (by unfold maxLen; omega) (by omega) HB2.out.size ?_; intro v4 w4 hown4 hg4 hat4; have HB4 := Lib.hid (HB2.out.grown hg4 HB2.out.size (fun b hb => (HO2.out.lt b hb).1)); rw [← byv_app] at hown4; obtain ⟨A4, c4, rfl, hr4, hc4, -⟩ := own_formc hown4; have HR4 := Lib.hid hr4; have HC4 := Lib.hid hc4; clear hown4 hg4 hat4 hr4 hc4)
        | fail "no arm")
    rw [show (sealL ys ++ zs).length = 22 + zs.length by rw [List.length_append, HSL.out]] at HBO
    go_wp2_with (first
      | (go_at_call 11; (with_reducible refine (HBO.out.dec _ _ _ HR4.out HC4.out).mono ?_); rintro e wd ⟨rfl, hbd⟩; have hbda := hbd.alloc hbd.size (.cells #[.int .i64 m, .int .i64 b, .int .i64 s, .int .i64 t, .int .i64 n, .int .i64 l, .int .i64 k] 29); have HBd := Lib.hid (HB4.out.trans (hbda.mono HB4.out.size)); have HXd := Lib.hid (Blk.new wd 29 #[.int .i64 m, .int .i64 b, .int .i64 s, .int .i64 t, .int .i64 n, .int .i64 l, .int .i64 k]); have HRd := Lib.hid (HR4.out.later hbda); clear hbd hbda)
      | (go_at_call 14; (with_reducible refine (HBO.out.rea _ _ _ HRd.out HC4.out).mono ?_); rintro e wr ⟨rfl, hbr⟩; have hbra := hbr.alloc hbr.size (.cells #[.int .i64 m, .int .i64 b, .int .i64 s, .int .i64 t, .int .i64 n, .int .i64 l, .int .i64 k] 29); have HBr := Lib.hid (HBd.out.trans (hbra.mono HBd.out.size)); obtain ⟨y0, y1, y2, y3, y4, y5, y6⟩ := (Blk.new wr 29 #[.int .i64 m, .int .i64 b, .int .i64 s, .int .i64 t, .int .i64 n, .int .i64 l, .int .i64 k]).cells7; obtain ⟨x0, x1, x2, x3, x4, x5, x6⟩ := (HXd.out.later hbra).cells7; clear hbr hbra)
      | fail "no")
    go_ret
    exact ⟨by simp, HBr.out⟩
  · obtain ⟨m, b, s, t, n, l, k, cd, hbo⟩ := both_of xs (by omega) ho
    have HBO := Lib.hid hbo
    have hq := fun W => lb_eql m b s t n l k W
    have hcase : sb = false ∨ (sb = true ∧ xs.length < 22) := by
      rcases sb with _ | _
      · exact .inl rfl
      · exact .inr ⟨rfl, Nat.lt_of_not_le fun h3 => hcond ⟨rfl, h3⟩⟩
    clear ra ho hc hbo hlong hcond hm
    rcases hcase with rfl | ⟨rfl, h1⟩
    · go_enter Try.func5, Try.ntmps5
      go_wp2_with (first
        | (go_at_call 7; (with_reducible refine HAW.out.mono ?_); rintro e w1 ⟨rfl, hb1⟩; have HB1 := Lib.hid hb1; have HRA1 := Lib.hid (HRA.out.later hb1); clear hb1)
        | (go_at_call 11; (with_reducible refine (HBO.out.dec _ _ _ HRA1.out HC.out).mono ?_); rintro e wd ⟨rfl, hbd⟩; have hbda := hbd.alloc hbd.size (.cells #[.int .i64 m, .int .i64 b, .int .i64 s, .int .i64 t, .int .i64 n, .int .i64 l, .int .i64 k] 29); have HBd := Lib.hid (HB1.out.trans (hbda.mono HB1.out.size)); have HXd := Lib.hid (Blk.new wd 29 #[.int .i64 m, .int .i64 b, .int .i64 s, .int .i64 t, .int .i64 n, .int .i64 l, .int .i64 k]); have HRd := Lib.hid (HRA1.out.later hbda); clear hbd hbda)
        | (go_at_call 14; (with_reducible refine (HBO.out.rea _ _ _ HRd.out HC.out).mono ?_); rintro e wr ⟨rfl, hbr⟩; have hbra := hbr.alloc hbr.size (.cells #[.int .i64 m, .int .i64 b, .int .i64 s, .int .i64 t, .int .i64 n, .int .i64 l, .int .i64 k] 29); have HBr := Lib.hid (HBd.out.trans (hbra.mono HBd.out.size)); obtain ⟨y0, y1, y2, y3, y4, y5, y6⟩ := (Blk.new wr 29 #[.int .i64 m, .int .i64 b, .int .i64 s, .int .i64 t, .int .i64 n, .int .i64 l, .int .i64 k]).cells7; obtain ⟨x0, x1, x2, x3, x4, x5, x6⟩ := (HXd.out.later hbra).cells7; clear hbr hbra)
        | fail "no")
      go_ret
      exact ⟨by simp, HBr.out⟩
    · have d1 : decide ((22 : Int) ≤ (xs.length : Int)) = false := by simp; omega
      have d1n : decide (22 ≤ xs.length) = false := by simp; omega
      go_enter Try.func5, Try.ntmps5
      go_wp2_with (first
        | (go_at_call 7; (with_reducible refine HAW.out.mono ?_); rintro e w1 ⟨rfl, hb1⟩; have HB1 := Lib.hid hb1; have HRA1 := Lib.hid (HRA.out.later hb1); clear hb1)
        | (go_at_call 11; (with_reducible refine (HBO.out.dec _ _ _ HRA1.out HC.out).mono ?_); rintro e wd ⟨rfl, hbd⟩; have hbda := hbd.alloc hbd.size (.cells #[.int .i64 m, .int .i64 b, .int .i64 s, .int .i64 t, .int .i64 n, .int .i64 l, .int .i64 k] 29); have HBd := Lib.hid (HB1.out.trans (hbda.mono HB1.out.size)); have HXd := Lib.hid (Blk.new wd 29 #[.int .i64 m, .int .i64 b, .int .i64 s, .int .i64 t, .int .i64 n, .int .i64 l, .int .i64 k]); have HRd := Lib.hid (HRA1.out.later hbda); clear hbd hbda)
        | (go_at_call 14; (with_reducible refine (HBO.out.rea _ _ _ HRd.out HC.out).mono ?_); rintro e wr ⟨rfl, hbr⟩; have hbra := hbr.alloc hbr.size (.cells #[.int .i64 m, .int .i64 b, .int .i64 s, .int .i64 t, .int .i64 n, .int .i64 l, .int .i64 k] 29); have HBr := Lib.hid (HBd.out.trans (hbra.mono HBd.out.size)); obtain ⟨y0, y1, y2, y3, y4, y5, y6⟩ := (Blk.new wr 29 #[.int .i64 m, .int .i64 b, .int .i64 s, .int .i64 t, .int .i64 n, .int .i64 l, .int .i64 k]).cells7; obtain ⟨x0, x1, x2, x3, x4, x5, x6⟩ := (HXd.out.later hbra).cells7; clear hbr hbra)
        | fail "no")
      go_ret
      exact ⟨by simp, HBr.out⟩
theorem superDecodes_true (A : Option Addr) (len cap : Nat) (zs : List Int) (sb : Bool) (w : World) (h : IsB w A len cap zs) :
    Calls Try.prog 5 #[.slice A len cap, .bool sb] w fun e w' => e = .returned (.bool true) ∧ Below w.heap.size w w' := by
  have hm : len ≤ maxLen := by
    rcases h with ⟨-, rfl, -, -⟩ | ⟨x, -, h1, h2, -⟩
    · unfold maxLen; omega
    · omega
  obtain ⟨raw, rfl, ra, ho, hc⟩ := isB_of h
  exact decodes_walk A cap raw sb w ra hc ho (by unfold maxLen at hm; omega)
end Go.Proofs.Ytcgodkahkgpojaa
