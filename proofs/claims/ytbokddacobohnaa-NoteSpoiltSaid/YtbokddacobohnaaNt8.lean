/- The walks of NoteDecodes and NoteSpoilt. No further condition. -/
import Derived.Test.YtbokddacobohnaaNt7
namespace Go.Proofs.Ytbokddacobohnaa
open Go.RowKit
attribute [local go_sem ↓] Go.wp_at_zero Go.wp_at_succ

/-- What both ways of reading answer. -/
structure Both (xs : List Int) (slots : Int) (n sq cd m : Nat) (nx : Int) (es : List En) : Prop where
  dec : ∀ W A c, Rd W A (byv xs) → n ≤ c → Calls Try.prog 12 #[.slice A n c, .int .i64 slots] W fun e w' => (∃ B d, e = .returned (.tuple #[.agg #[.int .u64 sq, .int .i64 nx, .slice B m d], .int .i64 cd]) ∧ Rd w' B (ens es)) ∧ Below W.heap.size W w'
  rea : ∀ W A c, Rd W A (byv xs) → n ≤ c → Calls Try.prog 15 #[.slice A n c, .int .i64 slots] W fun e w' => (∃ B d, e = .returned (.tuple #[.agg #[.int .u64 sq, .int .i64 nx, .slice B m d], .int .i64 cd]) ∧ Rd w' B (ens es)) ∧ Below W.heap.size W w'
  sam : ∀ W A B c d, Rd W A (ens es) → Rd W B (ens es) → Calls Try.prog 11 #[.agg #[.int .u64 sq, .int .i64 nx, .slice A m c], .agg #[.int .u64 sq, .int .i64 nx, .slice B m d]] W fun e w' => e = .returned (.bool true) ∧ Below W.heap.size W w'
theorem both_of (xs : List Int) (slots : Int) (hx : xs.length ≤ 10000) (ho : Oct xs) : ∃ sq cd m nx es, Both xs slots xs.length sq cd m nx es := by
  have hm : (dEnts xs slots).length ≤ 10000 := by
    unfold dEnts
    split
    · rename_i h0
      rw [ents_len]
      have : ¬ (slots < 0 ∨ (xs.length : Int) < 15 + 5 * slots) := fun h => by rw [dCode_size h] at h0; cases h0
      omega
    · simp
  refine ⟨dSeq xs slots, dCode xs slots, (dEnts xs slots).length, dNext xs slots, dEnts xs slots, fun W A c hr hc => decode_ok A c xs slots W hr (by omega) hc ho, fun W A c hr hc => reads_ok A c xs slots W hr (by omega) hc ho, fun W A B c d ra rb => ?_⟩
  have := same_ok (dSeq xs slots) (dSeq xs slots) (dNext xs slots) (dNext xs slots) A B c d (dEnts xs slots) (dEnts xs slots) W ra rb (by omega)
  rw [decide_eq_true rfl] at this
  exact this
set_option maxRecDepth 100000 in
set_option maxHeartbeats 12800000 in
theorem decodes_walk (A : Option Addr) (c : Nat) (xs : List Int) (slots : Int) (sb : Bool) (w : World) (ra : Rd w A (byv xs)) (hc : xs.length ≤ c) (ho : Oct xs) (hm : xs.length ≤ 9223372036854775807) (s0 : -9223372036854775808 ≤ slots) (s1 : slots ≤ 9223372036854775807) :
    Calls Try.prog 5 #[.slice A xs.length c, .int .i64 slots, .bool sb] w fun e w' => e = .returned (.bool true) ∧ Below w.heap.size w w' := by
  have HAW := Lib.hid (awake_ok w)
  by_cases hlong : 300 < xs.length
  · go_enter Try.func5, Try.ntmps5
    go_wp2_with (go_at_call 7; refine HAW.out.mono ?_; rintro e w1 ⟨rfl, hb1⟩)
    go_ret
    exact ⟨rfl, hb1⟩
  have hfew : xs.length ≤ 300 := by omega
  have hfi : ((xs.length : Nat) : Int) ≤ 300 := by omega
  have HRA := Lib.hid ra
  have HC := Lib.hid hc
  have HO := Lib.hid ho
  by_cases hcond : sb = true ∧ 0 ≤ slots ∧ slots ≤ 50 ∧ 15 + 5 * slots ≤ (xs.length : Int)
  · obtain ⟨rfl, h0, h50, hl⟩ := hcond
    obtain ⟨s, rfl⟩ := Int.eq_ofNat_of_zero_le h0
    obtain ⟨i0, hi0, hz0, hz1, hz2⟩ := info_parts (show (Try.prog.info? 5).map (fun i => (i.zero, i.size, i.bytes)) = some (some (.int .u8 0), 1, 1) by kernel_rfl)
    obtain ⟨ys, hys⟩ : ∃ ys, ys = xs.take (11 + 5 * s) := ⟨_, rfl⟩
    obtain ⟨zs, hzs⟩ : ∃ zs, zs = xs.drop (15 + 5 * s) := ⟨_, rfl⟩
    have hyl : ys.length = 11 + 5 * s := by rw [hys, List.length_take]; omega
    have hzl : zs.length = xs.length - (15 + 5 * s) := by rw [hzs, List.length_drop]
    have hyo : Oct ys := by rw [hys]; exact ho.take _
    have hzo : Oct zs := by rw [hzs]; exact ho.drop _
    obtain ⟨L, hL⟩ : ∃ L, L = 15 + 5 * s := ⟨_, rfl⟩
    obtain ⟨M, hM⟩ : ∃ M, M = 11 + 5 * s := ⟨_, rfl⟩
    have hLe : (15 : Int) + 5 * (s : Int) = L := by omega
    have hcut4 := fun W => cut_lo_ 31 1 Try.underlying31 (fun _ => by kernel_rfl) A xs.length c M (M : Int) rfl (by omega) W
    obtain ⟨A2, hA2⟩ : ∃ A2, A2 = (if c = L then A else A.map (·.add (L * 1))) := ⟨_, rfl⟩
    have hcut := fun W => cut_hi_ 31 1 Try.underlying31 (fun _ => by kernel_rfl) A xs.length c L (L : Int) rfl (by omega) W
    rw [← hA2, hL, ← hzl, ← hL] at hcut
    have hR2 : ∀ W, Rd W A (byv xs) → Rd W A2 (byv zs) := fun W hW => by
      have := hW.cutg (size := 1) (c := c) (n := L) (len := xs.length) (by simp [byv_len]) hc
      rw [← hA2, Nat.mul_one, ← byv_drop, hL, ← hzs] at this
      exact this
    have hLM : (L : Int) - 4 = M := by omega
    have hLM3 : IntKind.i64.wrap (M : Int) = M := IntWalk.i64_in _ (by omega)
    have hseal := fun W (hW : Rd W A (byv xs)) => sealed_ok A c ys W (by rw [hys, byv_take]; exact hW.take _) (by omega) hyo
    rw [hyl, ← hM] at hseal
    have hxo : Oct (sealL ys ++ zs) := (sealL_oct hyo).app hzo
    have hxl : (sealL ys ++ zs).length ≤ 1000 := by rw [List.length_append, sealL_len]; omega
    have hsl : (sealL ys).length = L := by rw [sealL_len]; omega
    obtain ⟨sq, cd, m, nx, es, hbo⟩ := both_of (sealL ys ++ zs) (s : Int) (by omega) hxo
    have HBO := Lib.hid hbo
    have HSEAL := Lib.hid hseal
    have HR2 := Lib.hid hR2
    have HSL := Lib.hid hsl
    have HXL := Lib.hid hxl
    have d1 : decide ((0 : Int) ≤ (s : Int)) = true := by simp
    have d2 : decide ((s : Int) ≤ 50) = true := by simp; omega
    have d2n : decide (s ≤ 50) = true := by simp; omega
    have d3 : decide ((L : Int) ≤ (xs.length : Int)) = true := by simp; omega
    have d3n : decide (L ≤ xs.length) = true := by simp; omega
    have hL1 : (L : Int) ≤ 265 := by omega
    have hcl : zs.length ≤ 300 := by omega
    have hL2 : L ≤ 265 := by omega
    clear ra ho hc hys hzs hyl hzl hyo hzo hL hM hA2 hR2 hseal hxo hxl hsl hbo hlong hl h0 hm
    go_enter Try.func5, Try.ntmps5
    go_wp2_with (go_at_call 7; (with_reducible refine HAW.out.mono ?_); rintro e w1 ⟨rfl, hb1⟩; have HB1 := Lib.hid hb1; have HRA1 := Lib.hid (HRA.out.later hb1); clear hb1)
    have HRAd : Hid (Rd w1.drew A (byv xs)) := Lib.hid (HRA1.out.later (below_drewN (Below.refl _ _) 1))
    have HB1d : Hid (Below w.heap.size w w1.drew) := Lib.hid (below_drewN HB1.out 1)
    go_region_held3 (fun _ => True) (exact trivial)
      (first
        | (go_at_call 14; (with_reducible refine (HSEAL.out _ HRAd.out).mono ?_); rintro e w2 ⟨r2, rfl, hown2, hb2⟩; have HB2 := Lib.hid (HB1d.out.trans (hb2.mono HB1d.out.size)); obtain ⟨A3, c3, rfl, -, -⟩ := own_form hown2; rw [HSL.out] at hown2 ⊢; have HO2 := Lib.hid (ownsRow_base hown2 HB1d.out.size); have HR2' := Lib.hid (HR2.out _ (HRAd.out.later hb2)); clear hown2 hb2)
        | (refine step_append_any _ (by rfl) _ _ 31 (by rfl) w.heap.size 5 i0 (.int .u8 0) 1 1 Try.underlying31 hi0 hz0 hz1 hz2 rfl (by decide) (.slice A3 L c3) L (byv (sealL ys)) (by rfl) HO2.out A2 zs.length (c - L) (byv zs) (by rfl) (by simp [byv_len]) HR2'.out (byv_one _) (by unfold maxLen; omega) (by omega) HB2.out.size ?_; intro v4 w4 hown4 hg4 hat4; have HB4 := Lib.hid (HB2.out.grown hg4 HB2.out.size (fun b hb => (HO2.out.lt b hb).1)); rw [← byv_app] at hown4; obtain ⟨A4, c4, rfl, hr4, hc4, -⟩ := own_formc hown4; have HR4 := Lib.hid hr4; have HC4 := Lib.hid hc4; clear hown4 hg4 hat4 hr4 hc4))
    rw [show (sealL ys ++ zs).length = L + zs.length by rw [List.length_append, HSL.out]] at HBO
    go_wp2_with (first
      | (go_at_call 12; (with_reducible refine (HBO.out.dec _ _ _ HR4.out HC4.out).mono ?_); rintro e wd ⟨⟨Bd, dd, rfl, hrd⟩, hbd⟩; have HBd := Lib.hid (HB4.out.trans (hbd.mono HB4.out.size)); have hbda := (Below.refl wd.heap.size wd).alloc (Nat.le_refl _) (.cells #[.int .u64 sq, .int .i64 nx, .slice Bd m dd] 28); have HXd := Lib.hid (Blk.new wd 28 #[.int .u64 sq, .int .i64 nx, .slice Bd m dd]); have HRd := Lib.hid ((HR4.out.later hbd).later hbda); have HEd := Lib.hid (hrd.later hbda); have HBd' := Lib.hid (HBd.out.trans (hbda.mono HBd.out.size)); clear hrd hbd hbda)
      | (go_at_call 15; (with_reducible refine (HBO.out.rea _ _ _ HRd.out HC4.out).mono ?_); rintro e wr ⟨⟨Br, dr, rfl, hrr⟩, hbr⟩; have HBr := Lib.hid (HBd'.out.trans (hbr.mono HBd'.out.size)); have hbra := (Below.refl wr.heap.size wr).alloc (Nat.le_refl _) (.cells #[.int .u64 sq, .int .i64 nx, .slice Br m dr] 28); have HYr := Lib.hid (Blk.new wr 28 #[.int .u64 sq, .int .i64 nx, .slice Br m dr]); have HXr := Lib.hid ((HXd.out.later hbr).later hbra); have HEr := Lib.hid ((HEd.out.later hbr).later hbra); have HFr := Lib.hid (hrr.later hbra); have HBr' := Lib.hid (HBr.out.trans (hbra.mono HBr.out.size)); clear hrr hbr hbra; obtain ⟨x0, x1, x2⟩ := HXr.out.cells3; obtain ⟨y0, y1, y2⟩ := HYr.out.cells3)
      | (go_at_call 11; (with_reducible refine (HBO.out.sam _ _ _ _ _ HEr.out HFr.out).mono ?_); rintro e ws ⟨rfl, hbs⟩; have HBs := Lib.hid (HBr'.out.trans (hbs.mono HBr'.out.size)); clear hbs))
    go_ret
    exact ⟨by simp, HBs.out⟩
  · obtain ⟨sq, cd, m, nx, es, hbo⟩ := both_of xs slots (by omega) ho
    have HBO := Lib.hid hbo
    have hcase : sb = false ∨ (sb = true ∧ slots < 0) ∨ (sb = true ∧ 0 ≤ slots ∧ 50 < slots) ∨ (sb = true ∧ 0 ≤ slots ∧ slots ≤ 50 ∧ (xs.length : Int) < 15 + 5 * slots) := by
      rcases sb with _ | _
      · exact .inl rfl
      · by_cases h1 : slots < 0
        · exact .inr (.inl ⟨rfl, h1⟩)
        · by_cases h2 : 50 < slots
          · exact .inr (.inr (.inl ⟨rfl, by omega, h2⟩))
          · refine .inr (.inr (.inr ⟨rfl, by omega, by omega, ?_⟩))
            rcases Int.lt_or_le (xs.length : Int) (15 + 5 * slots) with h3 | h3
            · exact h3
            · exact absurd ⟨rfl, by omega, by omega, h3⟩ hcond
    clear ra ho hc hbo hlong hcond hm
    rcases hcase with rfl | ⟨rfl, h1⟩ | ⟨rfl, h1, h2⟩ | ⟨rfl, h1, h2, h3⟩
    · skip
      go_enter Try.func5, Try.ntmps5
      go_wp2_with (first
        | (go_at_call 7; (with_reducible refine HAW.out.mono ?_); rintro e w1 ⟨rfl, hb1⟩; have HB1 := Lib.hid hb1; have HRA1 := Lib.hid (HRA.out.later hb1); clear hb1)
        | (go_at_call 12; (with_reducible refine (HBO.out.dec _ _ _ HRA1.out HC.out).mono ?_); rintro e wd ⟨⟨Bd, dd, rfl, hrd⟩, hbd⟩; have HBd := Lib.hid (HB1.out.trans (hbd.mono HB1.out.size)); have hbda := (Below.refl wd.heap.size wd).alloc (Nat.le_refl _) (.cells #[.int .u64 sq, .int .i64 nx, .slice Bd m dd] 28); have HXd := Lib.hid (Blk.new wd 28 #[.int .u64 sq, .int .i64 nx, .slice Bd m dd]); have HRd := Lib.hid ((HRA1.out.later hbd).later hbda); have HEd := Lib.hid (hrd.later hbda); have HBd' := Lib.hid (HBd.out.trans (hbda.mono HBd.out.size)); clear hrd hbd hbda)
        | (go_at_call 15; (with_reducible refine (HBO.out.rea _ _ _ HRd.out HC.out).mono ?_); rintro e wr ⟨⟨Br, dr, rfl, hrr⟩, hbr⟩; have HBr := Lib.hid (HBd'.out.trans (hbr.mono HBd'.out.size)); have hbra := (Below.refl wr.heap.size wr).alloc (Nat.le_refl _) (.cells #[.int .u64 sq, .int .i64 nx, .slice Br m dr] 28); have HYr := Lib.hid (Blk.new wr 28 #[.int .u64 sq, .int .i64 nx, .slice Br m dr]); have HXr := Lib.hid ((HXd.out.later hbr).later hbra); have HEr := Lib.hid ((HEd.out.later hbr).later hbra); have HFr := Lib.hid (hrr.later hbra); have HBr' := Lib.hid (HBr.out.trans (hbra.mono HBr.out.size)); clear hrr hbr hbra; obtain ⟨x0, x1, x2⟩ := HXr.out.cells3; obtain ⟨y0, y1, y2⟩ := HYr.out.cells3)
        | (go_at_call 11; (with_reducible refine (HBO.out.sam _ _ _ _ _ HEr.out HFr.out).mono ?_); rintro e ws ⟨rfl, hbs⟩; have HBs := Lib.hid (HBr'.out.trans (hbs.mono HBr'.out.size)); clear hbs))
      go_ret
      exact ⟨by simp, HBs.out⟩
    · have d1 : decide (0 ≤ slots) = false := by simp; omega
      go_enter Try.func5, Try.ntmps5
      go_wp2_with (first
        | (go_at_call 7; (with_reducible refine HAW.out.mono ?_); rintro e w1 ⟨rfl, hb1⟩; have HB1 := Lib.hid hb1; have HRA1 := Lib.hid (HRA.out.later hb1); clear hb1)
        | (go_at_call 12; (with_reducible refine (HBO.out.dec _ _ _ HRA1.out HC.out).mono ?_); rintro e wd ⟨⟨Bd, dd, rfl, hrd⟩, hbd⟩; have HBd := Lib.hid (HB1.out.trans (hbd.mono HB1.out.size)); have hbda := (Below.refl wd.heap.size wd).alloc (Nat.le_refl _) (.cells #[.int .u64 sq, .int .i64 nx, .slice Bd m dd] 28); have HXd := Lib.hid (Blk.new wd 28 #[.int .u64 sq, .int .i64 nx, .slice Bd m dd]); have HRd := Lib.hid ((HRA1.out.later hbd).later hbda); have HEd := Lib.hid (hrd.later hbda); have HBd' := Lib.hid (HBd.out.trans (hbda.mono HBd.out.size)); clear hrd hbd hbda)
        | (go_at_call 15; (with_reducible refine (HBO.out.rea _ _ _ HRd.out HC.out).mono ?_); rintro e wr ⟨⟨Br, dr, rfl, hrr⟩, hbr⟩; have HBr := Lib.hid (HBd'.out.trans (hbr.mono HBd'.out.size)); have hbra := (Below.refl wr.heap.size wr).alloc (Nat.le_refl _) (.cells #[.int .u64 sq, .int .i64 nx, .slice Br m dr] 28); have HYr := Lib.hid (Blk.new wr 28 #[.int .u64 sq, .int .i64 nx, .slice Br m dr]); have HXr := Lib.hid ((HXd.out.later hbr).later hbra); have HEr := Lib.hid ((HEd.out.later hbr).later hbra); have HFr := Lib.hid (hrr.later hbra); have HBr' := Lib.hid (HBr.out.trans (hbra.mono HBr.out.size)); clear hrr hbr hbra; obtain ⟨x0, x1, x2⟩ := HXr.out.cells3; obtain ⟨y0, y1, y2⟩ := HYr.out.cells3)
        | (go_at_call 11; (with_reducible refine (HBO.out.sam _ _ _ _ _ HEr.out HFr.out).mono ?_); rintro e ws ⟨rfl, hbs⟩; have HBs := Lib.hid (HBr'.out.trans (hbs.mono HBr'.out.size)); clear hbs))
      go_ret
      exact ⟨by simp, HBs.out⟩
    · have d1 : decide (0 ≤ slots) = true := by simp; omega
      have d2 : decide (slots ≤ 50) = false := by simp; omega
      go_enter Try.func5, Try.ntmps5
      go_wp2_with (first
        | (go_at_call 7; (with_reducible refine HAW.out.mono ?_); rintro e w1 ⟨rfl, hb1⟩; have HB1 := Lib.hid hb1; have HRA1 := Lib.hid (HRA.out.later hb1); clear hb1)
        | (go_at_call 12; (with_reducible refine (HBO.out.dec _ _ _ HRA1.out HC.out).mono ?_); rintro e wd ⟨⟨Bd, dd, rfl, hrd⟩, hbd⟩; have HBd := Lib.hid (HB1.out.trans (hbd.mono HB1.out.size)); have hbda := (Below.refl wd.heap.size wd).alloc (Nat.le_refl _) (.cells #[.int .u64 sq, .int .i64 nx, .slice Bd m dd] 28); have HXd := Lib.hid (Blk.new wd 28 #[.int .u64 sq, .int .i64 nx, .slice Bd m dd]); have HRd := Lib.hid ((HRA1.out.later hbd).later hbda); have HEd := Lib.hid (hrd.later hbda); have HBd' := Lib.hid (HBd.out.trans (hbda.mono HBd.out.size)); clear hrd hbd hbda)
        | (go_at_call 15; (with_reducible refine (HBO.out.rea _ _ _ HRd.out HC.out).mono ?_); rintro e wr ⟨⟨Br, dr, rfl, hrr⟩, hbr⟩; have HBr := Lib.hid (HBd'.out.trans (hbr.mono HBd'.out.size)); have hbra := (Below.refl wr.heap.size wr).alloc (Nat.le_refl _) (.cells #[.int .u64 sq, .int .i64 nx, .slice Br m dr] 28); have HYr := Lib.hid (Blk.new wr 28 #[.int .u64 sq, .int .i64 nx, .slice Br m dr]); have HXr := Lib.hid ((HXd.out.later hbr).later hbra); have HEr := Lib.hid ((HEd.out.later hbr).later hbra); have HFr := Lib.hid (hrr.later hbra); have HBr' := Lib.hid (HBr.out.trans (hbra.mono HBr.out.size)); clear hrr hbr hbra; obtain ⟨x0, x1, x2⟩ := HXr.out.cells3; obtain ⟨y0, y1, y2⟩ := HYr.out.cells3)
        | (go_at_call 11; (with_reducible refine (HBO.out.sam _ _ _ _ _ HEr.out HFr.out).mono ?_); rintro e ws ⟨rfl, hbs⟩; have HBs := Lib.hid (HBr'.out.trans (hbs.mono HBr'.out.size)); clear hbs))
      go_ret
      exact ⟨by simp, HBs.out⟩
    · have d1 : decide (0 ≤ slots) = true := by simp; omega
      have d2 : decide (slots ≤ 50) = true := by simp; omega
      have d3 : decide (15 + 5 * slots ≤ (xs.length : Int)) = false := by simp; omega
      go_enter Try.func5, Try.ntmps5
      go_wp2_with (first
        | (go_at_call 7; (with_reducible refine HAW.out.mono ?_); rintro e w1 ⟨rfl, hb1⟩; have HB1 := Lib.hid hb1; have HRA1 := Lib.hid (HRA.out.later hb1); clear hb1)
        | (go_at_call 12; (with_reducible refine (HBO.out.dec _ _ _ HRA1.out HC.out).mono ?_); rintro e wd ⟨⟨Bd, dd, rfl, hrd⟩, hbd⟩; have HBd := Lib.hid (HB1.out.trans (hbd.mono HB1.out.size)); have hbda := (Below.refl wd.heap.size wd).alloc (Nat.le_refl _) (.cells #[.int .u64 sq, .int .i64 nx, .slice Bd m dd] 28); have HXd := Lib.hid (Blk.new wd 28 #[.int .u64 sq, .int .i64 nx, .slice Bd m dd]); have HRd := Lib.hid ((HRA1.out.later hbd).later hbda); have HEd := Lib.hid (hrd.later hbda); have HBd' := Lib.hid (HBd.out.trans (hbda.mono HBd.out.size)); clear hrd hbd hbda)
        | (go_at_call 15; (with_reducible refine (HBO.out.rea _ _ _ HRd.out HC.out).mono ?_); rintro e wr ⟨⟨Br, dr, rfl, hrr⟩, hbr⟩; have HBr := Lib.hid (HBd'.out.trans (hbr.mono HBd'.out.size)); have hbra := (Below.refl wr.heap.size wr).alloc (Nat.le_refl _) (.cells #[.int .u64 sq, .int .i64 nx, .slice Br m dr] 28); have HYr := Lib.hid (Blk.new wr 28 #[.int .u64 sq, .int .i64 nx, .slice Br m dr]); have HXr := Lib.hid ((HXd.out.later hbr).later hbra); have HEr := Lib.hid ((HEd.out.later hbr).later hbra); have HFr := Lib.hid (hrr.later hbra); have HBr' := Lib.hid (HBr.out.trans (hbra.mono HBr.out.size)); clear hrr hbr hbra; obtain ⟨x0, x1, x2⟩ := HXr.out.cells3; obtain ⟨y0, y1, y2⟩ := HYr.out.cells3)
        | (go_at_call 11; (with_reducible refine (HBO.out.sam _ _ _ _ _ HEr.out HFr.out).mono ?_); rintro e ws ⟨rfl, hbs⟩; have HBs := Lib.hid (HBr'.out.trans (hbs.mono HBr'.out.size)); clear hbs))
      go_ret
      exact ⟨by simp, HBs.out⟩
theorem noteDecodes_true (A : Option Addr) (len cap : Nat) (zs : List Int) (slots : Int) (sb : Bool) (w : World) (h : IsB w A len cap zs) (hs : (Lit.int .i64 slots).wf = true) :
    Calls Try.prog 5 #[.slice A len cap, .int .i64 slots, .bool sb] w fun e w' => e = .returned (.bool true) ∧ Below w.heap.size w w' := by
  have hm : len ≤ maxLen := by
    rcases h with ⟨-, rfl, -, -⟩ | ⟨x, -, h1, h2, -⟩
    · unfold maxLen; omega
    · omega
  obtain ⟨raw, rfl, ra, ho, hc⟩ := isB_of h
  exact decodes_walk A cap raw slots sb w ra hc ho (by unfold maxLen at hm; omega) (i64_in_ hs).1 (i64_in_ hs).2
end Go.Proofs.Ytbokddacobohnaa
