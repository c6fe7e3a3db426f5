/- XorTurns. No further condition. -/
import Derived.Test.YtnahblhjjpjnbaaXt
namespace Go.Proofs.Ytnahblhjjpjnbaa
open Go.RowKit
open Go.Proofs.YtnahblhjjpjnbaaW.PrintWords (Kd rd)

/-! ### plain -/
theorem xorAt_app : ∀ (l m : List (List Int)) (i : Nat), Q.xorAt (l ++ m) i = Q.xorAt l i ^^^ Q.xorAt m i
  | [], m, i => by simp [Q.xorAt]
  | b :: r, m, i => by simp only [List.cons_append, Q.xorAt]; rw [xorAt_app r m i, Nat.xor_assoc]
theorem mlen_app : ∀ (l m : List (List Int)), Q.mlen (l ++ m) = max (Q.mlen l) (Q.mlen m)
  | [], m => by simp [Q.mlen]
  | b :: r, m => by simp only [List.cons_append, Q.mlen]; rw [mlen_app r m, Nat.max_assoc]
theorem xorAt_turned (l : List (List Int)) (j : Nat) (t : List Int) (i : Nat) : Q.xorAt (l.drop j ++ l.take j ++ [t, t]) i = Q.xorAt l i := by
  rw [xorAt_app, xorAt_app]
  simp only [Q.xorAt]
  rw [Nat.xor_zero, Nat.xor_self, Nat.xor_zero, Nat.xor_comm, ← xorAt_app, List.take_append_drop]
theorem BRows_app {l m : List (List Int)} (h : Q.BRows l) (k : Q.BRows m) : Q.BRows (l ++ m) := fun x hx => by
  rcases List.mem_append.1 hx with hx | hx
  · exact h x hx
  · exact k x hx
theorem L_get (n : Nat) (f : Nat → Nat) (i : Nat) (h : i < n) : (byv (Q.L n f))[i]? = some (.int .u8 (f i : Int)) := by
  unfold byv Q.L
  rw [List.getElem?_map, List.getElem?_map, List.getElem?_range h]
  rfl

theorem of_ok (A : Option Addr) (c : Nat) (l : List Sc) (W : World) (hr : Rd W A (scs l)) (hh : Hsc W l) (hc : l.length ≤ c) (hb : Q.BRows (rws l)) (hl : l.length ≤ 140737488351232) :
    Calls Try.prog 10 #[.slice A l.length c] W fun e w' => ∃ Aa ca, e = .returned (.slice Aa (Q.mlen (rws l)) ca) ∧ Q.mlen (rws l) ≤ ca ∧ Rd w' Aa (byv (Q.L (Q.mlen (rws l)) (Q.xorAt (rws l)))) ∧ (∀ ad, Aa = some ad → W.heap.size ≤ ad.block) ∧ Below W.heap.size W w' := by
  have h := Q.xor_Of.calls ((rws l).length + Q.cost (rws l) + 2) A c (rws l) _ W (C_of_rows hr hh (by omega)) (by rw [rws_len]; exact hc) (Q.of_tells (rws l) hb (by rw [rws_len]; omega) _ (Nat.le_refl _))
  rw [rws_len] at h
  refine h.mono ?_
  rintro e w' ⟨v, rfl, hR, hbel⟩
  obtain ⟨Aa, ca, rfl, hle, hC⟩ := Kd.R_reads hR
  have hRd := bytes_of_C hC
  obtain ⟨inner, ho⟩ := Kd.R_own hR
  obtain ⟨Ab, cb, e, -, -, hbk⟩ := own_formc ho
  injection e with e
  subst e
  rw [Q.L_length] at hle ⊢
  exact ⟨Aa, ca, rfl, hle, hRd, hbk, hbel⟩

attribute [local go_sem] go_max2 go_min2 go_max_two go_min_two
set_option maxHeartbeats 6400000 in
theorem xorTurns_true (A : Option Addr) (c : Nat) (l0 : List (List Int)) (k : Int) (B : Option Addr) (bl bc : Nat) (zs : List Int) (w : World)
    (hr : Kd.C (Kd.slice 5 (Kd.int .u8)) w A l0.length l0) (hc : l0.length ≤ c) (hm : l0.length * 24 ≤ 140737488351232)
    (hw : ∀ x ∈ l0, x.length * 1 ≤ 140737488351232 ∧ ∀ y ∈ x, (Lit.int .u8 y).wf = true) (hk : (Lit.int .u8 k).wf = true) (hb : IsB w B bl bc zs) :
    Calls Try.prog 6 #[.slice A l0.length c, .int .u8 k, .slice B bl bc] w fun e w' => e = .returned (.bool true) ∧ Below w.heap.size w w' := by
  have haw := fun W => Q.drystonelaw06_Awake.calls 40 true W (Q.awake_tells 40 (Nat.le_refl _))
  obtain ⟨bb, hbb⟩ := Q.light_some l0 (by omega) (l0.length + 1) (Nat.le_refl _)
  obtain ⟨t, rfl, rt, ot, hbc⟩ := isB_of hb
  obtain ⟨l, rfl, hrl, hhl⟩ := rows_of_C hr
  rw [rws_len] at hc hm ⊢
  have hli := fun W (h : Rd W A (scs l)) (h2 : Hsc W l) => Q.drystonelaw06_light.calls (l.length + 1) A c (rws l) bb W (C_of_rows h h2 (by omega)) (by rw [rws_len]; exact hc) (by rw [← rws_len l]; exact hbb)
  rw [rws_len] at hli
  have hin := u8_in_ hk
  have HAW := Lib.hid haw
  have HLI := Lib.hid hli
  have HRL := Lib.hid hrl
  have HHL := Lib.hid hhl
  have HRT := Lib.hid rt
  cases bb with
  | false =>
    clear hr hc hm hw hk hb haw hli hrl hhl rt ot hbb hin
    go_enter Try.func6, Try.ntmps6
    go_wp2_with (first
      | (go_at_call 8; (with_reducible refine (HAW.out _).mono ?_); rintro e w1 ⟨rfl, hb1⟩; have HB1 := Lib.hid hb1; have HRL1 := Lib.hid (HRL.out.later hb1); have HHL1 := Lib.hid (HHL.out.later hb1); clear hb1)
      | (go_at_call 9; (with_reducible refine (HLI.out _ HRL1.out HHL1.out).mono ?_); rintro e w2 ⟨rfl, hd2⟩; have HB2 := Lib.hid (HB1.out.trans (hd2.below.mono HB1.out.size)); clear hd2)
      | fail "no")
    go_ret
    exact ⟨rfl, HB2.out⟩
  | true =>
    have hbr0 := Pure.rows_of hw
    rcases Nat.eq_zero_or_pos l.length with h0 | h0
    · rw [h0] at hli ⊢
      have HLI := Lib.hid hli
      clear hr hc hm hw hk hb haw hli hrl hhl rt ot hbb hin hbr0
      go_enter Try.func6, Try.ntmps6
      go_wp2_with (first
        | (go_at_call 8; (with_reducible refine (HAW.out _).mono ?_); rintro e w1 ⟨rfl, hb1⟩; have HB1 := Lib.hid hb1; have HRL1 := Lib.hid (HRL.out.later hb1); have HHL1 := Lib.hid (HHL.out.later hb1); clear hb1)
        | (go_at_call 9; (with_reducible refine (HLI.out _ HRL1.out HHL1.out).mono ?_); rintro e w2 ⟨rfl, hd2⟩; have HB2 := Lib.hid (HB1.out.trans (hd2.below.mono HB1.out.size)); clear hd2)
        | fail "no")
      go_ret
      exact ⟨rfl, HB2.out⟩
    · have hn0 : ((l.length : Int) == 0) = false := beq_eq_false_iff_ne.2 (by omega)
      rcases Nat.lt_or_ge 100 t.length with h1 | h1
      · have hd1 : decide ((100 : Int) < (t.length : Int)) = true := by simp; omega
        have hI : (100 : Int) < (t.length : Int) := by omega
        clear hr hc hm hw hk hb haw hli hrl hhl rt ot hbb hin hbr0
        go_enter Try.func6, Try.ntmps6
        go_wp2_with (first
          | (go_at_call 8; (with_reducible refine (HAW.out _).mono ?_); rintro e w1 ⟨rfl, hb1⟩; have HB1 := Lib.hid hb1; have HRL1 := Lib.hid (HRL.out.later hb1); have HHL1 := Lib.hid (HHL.out.later hb1); clear hb1)
          | (go_at_call 9; (with_reducible refine (HLI.out _ HRL1.out HHL1.out).mono ?_); rintro e w2 ⟨rfl, hd2⟩; have HB2 := Lib.hid (HB1.out.trans (hd2.below.mono HB1.out.size)); clear hd2)
          | fail "no")
        go_ret
        exact ⟨rfl, HB2.out⟩
      · obtain ⟨kn, rfl⟩ : ∃ kn : Nat, k = kn := ⟨k.toNat, by omega⟩
        obtain ⟨j, hj⟩ : ∃ j, j = kn % l.length := ⟨_, rfl⟩
        have hjl : j < l.length := hj ▸ Nat.mod_lt _ h0
        have hmod : (kn : Int) % (l.length : Int) = (j : Int) := by rw [hj]; exact (Int.natCast_emod kn l.length).symm
        have hnz : ((l.length : Int) = 0) = False := eq_false (by omega)
        have hI : ¬ (100 : Int) < (t.length : Int) := by omega
        have HMOD := Lib.hid hmod
        obtain ⟨la, hla⟩ : ∃ la, la = Q.mlen (rws l) := ⟨_, rfl⟩
        obtain ⟨X, hX⟩ : ∃ X, X = Q.xorAt (rws l) := ⟨_, rfl⟩
        obtain ⟨l2, hl2⟩ : ∃ l2, l2 = l.drop j ++ l.take j ++ [⟨B, t, bc⟩, ⟨B, t, bc⟩] := ⟨_, rfl⟩
        have hrw2 : rws l2 = (rws l).drop j ++ (rws l).take j ++ [t, t] := by rw [hl2]; simp [rws, List.map_drop, List.map_take]
        have hl2l : l2.length = l.length + 2 := by rw [hl2]; simp; omega
        obtain ⟨lb, hlb⟩ : ∃ lb, lb = Q.mlen (rws l2) := ⟨_, rfl⟩
        have hX2 : Q.xorAt (rws l2) = X := by rw [hX, hrw2]; exact funext fun i => xorAt_turned _ _ _ _
        have hbr2 : Q.BRows (rws l2) := by
          rw [hrw2]
          refine BRows_app (BRows_app (fun x hx => hbr0 x (List.mem_of_mem_drop hx)) (fun x hx => hbr0 x (List.mem_of_mem_take hx))) fun x hx => ?_
          simp at hx
          rw [hx]
          exact ⟨ot, by omega⟩
        have hh2 : Hsc w l2 := by
          rw [hl2]
          refine ((hhl.sub fun x hx => List.mem_of_mem_drop hx).app (hhl.sub fun x hx => List.mem_of_mem_take hx)).app fun x hx => ?_
          simp at hx
          rw [hx]
          exact ⟨hbc, C_of_bytes rt (Nat.le_trans h1 (by decide))⟩
        have hof1 := fun W (h : Rd W A (scs l)) (h2 : Hsc W l) => of_ok A c l W h h2 hc hbr0 (by omega)
        have hof2 := fun W A' c' (h : Rd W A' (scs l2)) (h2 : Hsc W l2) (h3 : l2.length ≤ c') => of_ok A' c' l2 W h h2 h3 hbr2 (by omega)
        rw [← hla, ← hX] at hof1
        rw [← hlb, hX2, hl2l] at hof2
        have hXa : ∀ i, la ≤ i → X i = 0 := fun i hi => by rw [hX]; exact Q.xorAt_out (hla ▸ hi)
        have hXb : ∀ i, lb ≤ i → X i = 0 := fun i hi => by rw [← hX2]; exact Q.xorAt_out (hlb ▸ hi)
        have hla2 : la ≤ 140737488351232 := by rw [hla]; exact Q.mlen_le hbr0
        have hlb2 : lb ≤ 140737488351232 := by rw [hlb]; exact Q.mlen_le hbr2
        have HOF1 := Lib.hid hof1
        have HOF2 := Lib.hid hof2
        have HH2 := Lib.hid hh2
        have HXA := Lib.hid hXa
        have HXB := Lib.hid hXb
        have HL2 : Hid (scs (l.drop j ++ l.take j) ++ scs [⟨B, t, bc⟩, ⟨B, t, bc⟩] = scs l2) := Lib.hid (by rw [hl2, ← scs_app])
        obtain ⟨M, hM⟩ : ∃ M : Nat, mxI (la : Int) (lb : Int) = M ∧ M ≤ 140737488351232 := ⟨max la lb, by unfold mxI; split <;> omega, by omega⟩
        have HM := Lib.hid hM.1
        have hM2 := hM.2
        clear hof1 hof2 hh2 hXa hXb hM hX2 hX hla hlb hbr2 hl2 hrw2 hl2l hbr0
        clear hr hw hk hb haw hli hrl hhl rt hbb hj hmod
        go_enter Try.func6, Try.ntmps6
        go_upto_region 6 with (first
          | (go_at_call 8; (with_reducible refine (HAW.out _).mono ?_); rintro e w1 ⟨rfl, hb1⟩; have HB1 := Lib.hid hb1; have HRL1 := Lib.hid (HRL.out.later hb1); have HHL1 := Lib.hid (HHL.out.later hb1); have HRT1 := Lib.hid (HRT.out.later hb1); clear hb1)
          | (go_at_call 9; (with_reducible refine (HLI.out _ HRL1.out HHL1.out).mono ?_); rintro e w2 ⟨rfl, hd2⟩; have HB2 := Lib.hid (HB1.out.trans (hd2.below.mono HB1.out.size)); have HRL2 := Lib.hid (HRL1.out.later hd2.below); have HHL2 := Lib.hid (HHL1.out.later hd2.below); have HRT2 := Lib.hid (HRT1.out.later hd2.below); clear hd2)
          | fail "no")
        rw [HMOD.out]
        obtain ⟨A2, hA2⟩ : ∃ A2, A2 = (if c = j then A else A.map (·.add (j * 1))) := ⟨_, rfl⟩
        have hcut := fun W => cut_hi_ 22 1 Try.underlying22 (fun _ => by kernel_rfl) A l.length c j (j : Int) rfl (by omega) W
        have hcut2 := fun W => cut_lo_ 22 1 Try.underlying22 (fun _ => by kernel_rfl) A l.length c j (j : Int) rfl (by omega) W
        rw [← hA2] at hcut
        have hR2 : ∀ W, Rd W A (scs l) → Rd W A2 (scs (l.drop j)) := fun W hW => by
          have := hW.cutg (size := 1) (c := c) (n := j) (len := l.length) (by simp [scs_len]) hc
          rw [← hA2, Nat.mul_one, ← scs_drop] at this
          exact this
        have hcl := fun W (h : Rd W A2 (scs (l.drop j))) => cloned_ok A2 (c - j) (l.drop j) W h (by rw [List.length_drop]; omega)
        rw [List.length_drop] at hcl
        have HCL := Lib.hid hcl
        have HR2 := Lib.hid hR2
        obtain ⟨i0, hi0, hz0, hz1, hz2⟩ := info_parts (show (Try.prog.info? 25).map (fun i => (i.zero, i.size, i.bytes)) = some (some (.slice none 0 0), 1, 24) by kernel_rfl)
        have g0 : (0 : Int) ≤ j := by omega
        have g1 : (j : Int) ≤ l.length := by omega
        have g2 : (j : Int) ≤ c := by omega
        clear hA2 hR2 hcl
        have HTL : Hid ((l.take j).length = j) := Lib.hid (by rw [List.length_take]; omega)
        have HRLd : Hid (Rd w2.drew A (scs l)) := Lib.hid (HRL2.out.later (below_drewN (Below.refl _ _) 1))
        have HHLd : Hid (Hsc w2.drew l) := Lib.hid (HHL2.out.later (below_drewN (Below.refl _ _) 1))
        have HRTd : Hid (Rd w2.drew B (byv t)) := Lib.hid (HRT2.out.later (below_drewN (Below.refl _ _) 1))
        have HBd : Hid (Below w.heap.size w w2.drew) := Lib.hid (below_drewN HB2.out 1)
        have HC2 := Lib.hid (HCL.out _ (HR2.out _ HRLd.out))
        go_region_held3 (fun _ => True) (exact trivial)
          (first
            | (go_at_call 14; (with_reducible refine HC2.out.mono ?_); rintro e w3 ⟨r3, rfl, hown3, hb3⟩; have HB3 := Lib.hid (HBd.out.trans (hb3.mono HBd.out.size)); obtain ⟨A3, c3, rfl, -, -⟩ := own_form hown3; have HO3 := Lib.hid (ownsRow_base hown3 HBd.out.size); have HRL3 := Lib.hid (HRLd.out.later hb3); have HHL3 := Lib.hid (HHLd.out.later hb3); have HRT3 := Lib.hid (HRTd.out.later hb3); clear hown3 hb3)
            | (refine step_append_any _ (by rfl) _ _ 22 (by rfl) w.heap.size 25 i0 (.slice none 0 0) 1 24 Try.underlying22 hi0 hz0 hz1 hz2 rfl (by decide) (.slice A3 (l.length - j) c3) (l.length - j) (scs (l.drop j)) (by rfl) HO3.out A j c (scs (l.take j)) (by rfl) (by rw [scs_len, HTL.out, Nat.mul_one]) (by rw [scs_take]; exact HRL3.out.take_ j) (scs_one _) (by unfold maxLen; omega) (by omega) HB3.out.size ?_; intro v4 w4 hown4 hg4 hat4; have HB4 := Lib.hid (HB3.out.grown hg4 HB3.out.size (fun b hb => (HO3.out.lt b hb).1)); rw [← scs_app] at hown4; have HO4 := Lib.hid hown4; clear hown4 hat4)
            | fail "no arm")
        rw [Nat.sub_add_cancel (show j ≤ l.length by omega)] at HO4
        obtain ⟨A4, c4, rfl, -, hc4, -⟩ := own_formc HO4.out
        go_wp2_with (first
          | (go_at_call 10; (with_reducible refine (HOF1.out _ (HRL.out.later HB4.out) (HHL.out.later HB4.out)).mono ?_); rintro e w5 ⟨Aa, ca, rfl, hca, hra, hna, hb5⟩; have HB5 := Lib.hid (HB4.out.trans (hb5.mono HB4.out.size)); have HO5 := Lib.hid (ownsRow_later HO4.out hb5); have HRA5 := Lib.hid hra; have HNA := Lib.hid hna; have HLT := Lib.hid hb5.size; clear hb5 hra hna)
          | (at_builtin; refine wpList_append_any _ rfl _ _ 22 rfl w.heap.size 25 i0 _ 1 24 Try.underlying22 hi0 hz0 hz1 hz2 rfl (by decide) (.slice A4 l.length c4) l.length (scs (l.drop j ++ l.take j)) rfl (HO5.out.alloc _) (some ⟨w5.heap.size, 0, none⟩) 2 2 (scs [⟨B, t, bc⟩, ⟨B, t, bc⟩]) rfl rfl (Rd.blk_all (xs := scs [⟨B, t, bc⟩, ⟨B, t, bc⟩]) (Blk.new w5 25 _)) (scs_one _) (by unfold maxLen; omega) (by omega) (by have := HB5.out.size; simp; omega) ?_; intro v6 w6 hown6 hg6 hat6; rw [HL2.out] at hown6; have HB6 := Lib.hid ((HB5.out.alloc HB5.out.size (.cells #[.slice B t.length bc, .slice B t.length bc] 25)).grown hg6 (by have := HB5.out.size; simp; omega) (fun b hb => (HO4.out.lt b hb).1)); have HRA6 := Lib.hid ((HRA5.out.alloc _).fr (Fr.of_grown hg6) (fun ad e h => by have h1 := HNA.out ad e; have h2 := (HO4.out.lt _ h).2; omega)); obtain ⟨A6, c6, rfl, hr6, hc6, -⟩ := own_formc hown6; have HR6 := Lib.hid hr6; clear hown6 hg6 hat6 hr6)
          | (go_at_call 10; (with_reducible refine (HOF2.out _ A6 c6 HR6.out (HH2.out.later HB6.out) hc6).mono ?_); rintro e w7 ⟨Ab, cb, rfl, hcb, hrb, hnb, hb7⟩; have HB7 := Lib.hid (HB6.out.trans (hb7.mono HB6.out.size)); have HRB7 := Lib.hid hrb; have HRA7 := Lib.hid (HRA6.out.later hb7); clear hb7 hrb hnb)
          | fail "no")
        rw [HM.out]
        clear HOF1 HOF2 HH2 HRL2 HHL2 HRT2 HRLd HHLd HRTd HCL HR2 HC2 HTL HL2
        go_loopw [11, 12, 13, 55] (fun _ _ _ i wr => ∃ n nq : Nat, n ≤ M ∧ i = .int .i64 n ∧ wr = w7.drewN nq) (fun _ _ _ i _ => M - (intOf i).toNat)
        case atStart => exact ⟨0, 0, by omega, rfl, rfl⟩
        case round =>
          obtain ⟨n, nq, hn, rfl, rfl⟩ := hrel
          by_cases hlt : n < M
          · have hRA := HRA7.out
            have hRB := HRB7.out
            have x0 : (0 : Int) ≤ n := by omega
            rcases Nat.lt_or_ge n la with ha | ha <;> rcases Nat.lt_or_ge n lb with hb | hb
            · obtain ⟨ad, rfl, a0⟩ := hRA n _ (L_get la X n ha)
              obtain ⟨bd, rfl, b0⟩ := hRB n _ (L_get lb X n hb)
              have e1 : (n : Int) < la := by omega
              have e2 : (n : Int) < lb := by omega
              clear hRA hRB
              go_wp2
              go_roundw
              case rel => exact ⟨n + 1, nq, by omega, by go_num, rfl⟩
              case measure => simp [intOf]; omega
            · obtain ⟨ad, rfl, a0⟩ := hRA n _ (L_get la X n ha)
              have e1 : (n : Int) < la := by omega
              have e2 : ¬ (n : Int) < lb := by omega
              rw [HXB.out n hb] at a0
              clear hRA hRB
              go_wp2
              go_roundw
              case rel => exact ⟨n + 1, nq, by omega, by go_num, rfl⟩
              case measure => simp [intOf]; omega
            · obtain ⟨bd, rfl, b0⟩ := hRB n _ (L_get lb X n hb)
              have e1 : ¬ (n : Int) < la := by omega
              have e2 : (n : Int) < lb := by omega
              rw [HXA.out n ha] at b0
              clear hRA hRB
              go_wp2
              go_roundw
              case rel => exact ⟨n + 1, nq, by omega, by go_num, rfl⟩
              case measure => simp [intOf]; omega
            · have e1 : ¬ (n : Int) < la := by omega
              have e2 : ¬ (n : Int) < lb := by omega
              clear hRA hRB
              go_wp2
              go_roundw
              case rel => exact ⟨n + 1, nq, by omega, by go_num, rfl⟩
              case measure => simp [intOf]; omega
          · obtain rfl : n = M := by omega
            go_wp2
            go_ret
            exact ⟨rfl, below_drewN HB7.out _⟩
end Go.Proofs.Ytnahblhjjpjnbaa
