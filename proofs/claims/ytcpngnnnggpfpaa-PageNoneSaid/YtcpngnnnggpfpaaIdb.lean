/- Decode of as many pages as there are. No further condition. -/
import Derived.Test.YtcpngnnnggpfpaaIda
namespace Go.Proofs.Ytcpngnnnggpfpaa
open Go.RowKit
attribute [local go_sem ↓] Go.wp_at_zero Go.wp_at_succ

/-- One world: a word that no tactic strikes. -/
def EqW (a b : World) : Prop := a = b
theorem zer_snoc (l : List Int) (x : Int) : zer (l ++ [x]) = (zer l && (x == 0)) := by simp [zer]
theorem restsL_snoc (g : Nat) (l : List (List Int)) (b : List Int) : restsL g (l ++ [b]) = restsL g l ++ restL g b := by simp [restsL]
theorem oneC_len {gen g i : Nat} {b : List Int} (h : oneC gen g i b = 0) : b.length = g + 15 := by
  unfold oneC at h
  by_cases hl : b.length = g + 15
  · exact hl
  · rw [if_neg hl] at h
    exact absurd h (by decide)
theorem restL_oct {g : Nat} {b : List Int} (h : Oct b) : Oct (restL g b) := (h.take _).drop _
theorem firstC_step {gen g i : Nat} {pg : List (List Int)} {b : List Int} (h : pg[i]? = some b) : firstC gen g i (pg.drop i) = if oneC gen g i b = 0 then firstC gen g (i + 1) (pg.drop (i + 1)) else oneC gen g i b := by
  have hi := (List.getElem?_eq_some_iff.1 h).1
  rw [List.drop_eq_getElem_cons hi, (List.getElem?_eq_some_iff.1 h).2]
  rfl
theorem oneC_cases (gen g i : Nat) (b : List Int) : oneC gen g i b = 0 ∨ oneC gen g i b = 4 ∨ oneC gen g i b = 5 ∨ oneC gen g i b = 6 := by
  unfold oneC
  split
  · split
    · split <;> simp
    · simp
  · simp
set_option maxRecDepth 100000 in
set_option maxHeartbeats 25600000 in
theorem dec_ok (x : Sh) (gen : Nat) (A : Option Addr) (c : Nat) (pl : List Sc) (T P g s t q l : Nat) (w : World) (hx : mayB x = true) (hg : Gd x T P g) (_hgen : gen < 18446744073709551616) (hP : P ≤ 1000)
    (hs : x.s = s) (ht : x.t = t) (hl : x.l = l) (al1 sl1 : Nat) (ha : x.s * x.t = al1) (hb : x.m - 2 = sl1) (hq : al1 * sl1 = q) (hq1 : al1 ≤ 1000000 ∧ sl1 ≤ 1000 ∧ q ≤ 1000000)
    (hr : Rd w A (scs pl)) (hh : Hsc w pl) (ho : ∀ s ∈ pl, Oct s.raw) (hpl : pl.length = P) (hc : P ≤ c) :
    Calls Try.prog 10 #[.agg #[.int .i64 x.m, .int .i64 x.b, .int .i64 x.s, .int .i64 x.t, .int .i64 x.n, .int .i64 x.l], .int .u64 gen, .slice A P c] w fun e w' => ImRes w.heap.size w' e (decP gen g P s t q l (rws pl)) (decC gen g P s t q l (rws pl)) ∧ Below w.heap.size w w' := by
  have h1 : chk x = 0 := by unfold chk; rw [if_pos hx]
  have HCK := Lib.hid (fun W => h1 ▸ check_ok x W)
  have HG := Lib.hid hg
  have HD := Lib.hid (D0.start w x)
  obtain ⟨s0, s1, s2, s3, s4, s5⟩ := HD.out.sh.cells6
  have HR := Lib.hid hr
  have HH := Lib.hid hh
  have HO := Lib.hid ho
  have HPL := Lib.hid hpl
  have hg1 := hg.g1
  have hxb : x.b = (g : Int) + 15 := by have := hg.b; omega
  have hdC : decC gen g P s t q l (rws pl) = if firstC gen g 0 (rws pl) = 0 then (if picB s t q (restsL g (rws pl)) l = true then 0 else 4) else firstC gen g 0 (rws pl) := by unfold decC; rw [if_pos (by rw [rws_len]; exact hpl)]
  have hdP : decP gen g P s t q l (rws pl) = if decC gen g P s t q l (rws pl) = 0 then picAt (restsL g (rws pl)) s l else zeroPic := rfl
  have HDC := Lib.hid hdC
  have HDP := Lib.hid hdP
  have HXB := Lib.hid hxb
  have hone := fun (i : Nat) (b : List Int) (A : Option Addr) (c : Nat) (W : World) (h : Rd W A (byv b)) (h2 : Oct b) (h3 : b.length ≤ c) (h4 : i < 65536) => one_ok x gen g i b A c W hxb hg1 h4 h h2 h3
  have HONE := Lib.hid hone
  obtain ⟨j0, hj0, y0, y1, y2⟩ := info_parts (show (Try.prog.info? 72).map (fun i => (i.zero, i.size, i.bytes)) = some (some (.agg #[.int .i64 0, .int .u64 0]), 2, 16) by kernel_rfl)
  obtain ⟨l0, hl0, x0, x1, x2⟩ := info_parts (show (Try.prog.info? 3).map (fun i => (i.zero, i.size, i.bytes)) = some (some (.int .i64 0), 1, 8) by kernel_rfl)
  obtain ⟨i0, hi0, hz0, hz1, hz2⟩ := info_parts (show (Try.prog.info? 5).map (fun i => (i.zero, i.size, i.bytes)) = some (some (.int .u8 0), 1, 1) by kernel_rfl)
  generalize decC gen g P s t q l (rws pl) = DC at HDC HDP ⊢
  generalize decP gen g P s t q l (rws pl) = DP at HDP ⊢
  have HS := Lib.hid hs
  have HT := Lib.hid ht
  have HL := Lib.hid hl
  have hall : ∀ W, Calls Try.prog 35 #[.agg #[.int .i64 x.m, .int .i64 x.b, .int .i64 x.s, .int .i64 x.t, .int .i64 x.n, .int .i64 x.l]] W fun e w' => e = .returned (.int .i64 (al1 : Int)) ∧ Below W.heap.size W w' := fun W =>
    Q.geom_Shape_All.calls _ _ _ _ _ _ _ W (by unfold Q.geom_Shape_All.f; rw [ha, wr64 (by omega) (by omega)])
  have hslo : ∀ W, Calls Try.prog 23 #[.agg #[.int .i64 x.m, .int .i64 x.b, .int .i64 x.s, .int .i64 x.t, .int .i64 x.n, .int .i64 x.l]] W fun e w' => e = .returned (.int .i64 (sl1 : Int)) ∧ Below W.heap.size W w' := fun W =>
    Q.geom_Shape_Slots.calls _ _ _ _ _ _ _ W (by unfold Q.geom_Shape_Slots.f; rw [hb, wr64 (by omega) (by omega)])
  have HALL := Lib.hid hall
  have HSLO := Lib.hid hslo
  have mq : IntKind.i64.wrap ((al1 : Int) * (sl1 : Int)) = (q : Int) := by rw [show (al1 : Int) * (sl1 : Int) = (q : Int) by rw [← hq]; rfl]; exact IntWalk.i64_in _ (by omega)
  clear h1 hg hr hh ho hpl hxb hdC hdP hone hx hs ht hl hq ha hb hall hslo
  go_enter Try.func10, Try.ntmps10
  go_wp2_with (first
    | (go_at_call 8; (with_reducible refine (HCK.out _).mono ?_); rintro e w1 ⟨rfl, hb1⟩; have HD1 := Lib.hid (HD.out.later hb1); clear hb1; obtain ⟨t0, t1, t2, t3, t4, t5⟩ := HD1.out.sh.cells6)
    | (go_at_call 26; (with_reducible refine (HG.out.pages _).mono ?_); rintro e w2 ⟨rfl, hb2⟩; have HD2 := Lib.hid (HD1.out.later hb2); clear hb2)
    | fail "no")
  clear s0 s1 s2 s3 s4 s5 t0 t1 t2 t3 t4 t5 HD HD1 HCK
  have HB2 := Lib.hid HD2.out.bel
  go_loopw [8, 9, 10, 11, 12, 32] (fun v8 _ _ _ _ i wr => ∃ k acc, k ≤ P ∧ i = .int .i64 (k : Nat) ∧ acc = restsL g ((rws pl).take k) ∧ firstC gen g 0 (rws pl) = firstC gen g k ((rws pl).drop k) ∧ acc.length = k * g ∧ Oct acc ∧ wr.ownsRow w2.heap.size 5 1 v8 acc.length (byv acc) ∧ Below w2.heap.size w2 wr) (fun _ _ _ _ _ i _ => P - (intOf i).toNat)
  case atStart => exact ⟨0, [], by omega, rfl, by simp [restsL], by simp, by simp, by simp [Oct], World.ownsRow_nil _ _ _ _, Below.refl _ _⟩
  case round =>
    obtain ⟨k, acc, hk, rfl, hacc, hfi, hal, hao, hrow, hbel⟩ := hrel
    have HACC := Lib.hid hacc
    have HFI := Lib.hid hfi
    have HAL := Lib.hid hal
    have HAO := Lib.hid hao
    have HROW := Lib.hid hrow
    have HD3 := Lib.hid (HD2.out.later hbel)
    obtain ⟨t0, t1, t2, t3, t4, t5⟩ := HD3.out.sh.cells6
    have HBE := Lib.hid hbel
    clear hacc hfi hal hao hrow hbel
    by_cases hlt : k < P
    · obtain ⟨s, hs⟩ : ∃ s, pl[k]? = some s := ⟨_, List.getElem?_eq_getElem (by rw [HPL.out]; exact hlt)⟩
      have g1 : (k : Int) < P := by omega
      have hsm := List.mem_of_getElem? hs
      have hbe0 := HB2.out.trans (HBE.out.mono HB2.out.size)
      obtain ⟨hs1, hs2⟩ := HH.out.later hbe0 s hsm
      obtain ⟨ad, rfl, hc0⟩ := (HR.out.later hbe0) k (scv s) (scs_get hs)
      unfold scv at hc0
      have hst := firstC_step (gen := gen) (g := g) (rws_get hs)
      have hon := HONE.out k s.raw s.A s.c wr hs2 (HO.out s hsm) hs1 (by omega)
      have hln : oneC gen g k s.raw = 0 → s.raw.length = g + 15 := oneC_len
      have hoo := restL_oct (g := g) (HO.out s hsm)
      have htk : (rws pl).take (k + 1) = (rws pl).take k ++ [s.raw] := take_snoc_pk (rws_get hs)
      obtain ⟨sA, sr, sc⟩ := s
      simp only at hs hsm hs1 hs2 hc0 hst hon hln hoo htk
      rename_i adx
      clear hs hsm hs2 hbe0
      have HST := Lib.hid hst
      have HOO := Lib.hid hoo
      have HTK := Lib.hid htk
      have HLN := Lib.hid hln
      clear hst hoo htk hln
      obtain ⟨cd, hcd⟩ : ∃ cd, cd = oneC gen g k sr := ⟨_, rfl⟩
      rw [← hcd] at hon HST HLN
      by_cases hz : cd = 0
      · subst hz
        rw [if_pos rfl] at HST
        have hrl := restL_len (HLN.out rfl)
        obtain ⟨rs, hrs⟩ : ∃ rs, rs = restL g sr := ⟨_, rfl⟩
        rw [if_pos rfl, ← hrs] at hon
        rw [← hrs] at HOO hrl
        have HON := Lib.hid hon
        have HRS := Lib.hid hrs
        have HRL := Lib.hid hrl
        have hab : acc.length ≤ 1000000 := by rw [HAL.out]; exact Nat.mul_le_mul (show k ≤ 1000 by omega) hg1.2
        have HAB := Lib.hid hab
        obtain ⟨A8, c8, rfl, -, hc8, -⟩ := own_formc HROW.out
        clear hon hrs hrl hcd hab
        go_wp2_with (first
          | (go_at_call 32; (with_reducible refine HON.out.mono ?_); rintro e w3 ⟨⟨A3, c3, rfl, hr3⟩, hb3⟩; have HD4 := Lib.hid (HD3.out.later hb3); have HR3 := Lib.hid hr3; have HROW3 := Lib.hid (ownsRow_later HROW.out hb3); have HBE3 := Lib.hid (HBE.out.trans (hb3.mono HBE.out.size)); clear hr3 hb3)
          | (at_builtin; refine wpList_append_any _ rfl _ _ 47 rfl w2.heap.size 5 i0 _ 1 1 Try.underlying47 hi0 hz0 hz1 hz2 rfl (by decide) (.slice A8 acc.length c8) acc.length (byv acc) rfl HROW3.out A3 rs.length c3 (byv rs) rfl (by simp [byv_len]) HR3.out (byv_one rs) (by have := HAB.out; have := HRL.out; unfold maxLen; omega) (by have := HAB.out; have := HRL.out; omega) (by have := HBE3.out.size; omega) ?_; intro v4 w4 hown4 hg4 hat4; rw [← byv_app, ← List.length_append] at hown4; have HROW4 := Lib.hid hown4; have HBE4 := Lib.hid (HBE3.out.grown hg4 HBE3.out.size fun b hb => (HROW3.out.lt b hb).1); clear hown4 hg4 hat4)
          | fail "no")
        go_roundw
        case rel => exact ⟨k + 1, acc ++ rs, by omega, by go_num, by rw [HTK.out, restsL_snoc, ← HACC.out, HRS.out], by rw [HFI.out, HST.out], by rw [List.length_append, HAL.out, HRL.out, Nat.succ_mul], HAO.out.app HOO.out, HROW4.out, HBE4.out⟩
        case measure => simp [intOf]; omega
      · rw [if_neg hz] at HST hon
        have HON := Lib.hid hon
        have hcn1 : (cd != 0) = true := bne_iff_ne.2 hz
        have hcn2 : (cd == 0) = false := beq_eq_false_iff_ne.2 hz
        have hdc : DC = cd := by have h1 := HDC.out; rw [HFI.out, HST.out, if_neg hz] at h1; exact h1
        have hdp : DP = zeroPic := by have h1 := HDP.out; rw [hdc, if_neg hz] at h1; exact h1
        have HDC1 := Lib.hid hdc
        have HDP1 := Lib.hid hdp
        clear hon hdc hdp hcd
        go_wp2_with (first
          | (go_at_call 32; (with_reducible refine HON.out.mono ?_); rintro e w3 ⟨⟨A3, c3, rfl, hr3⟩, hb3⟩; have HD4 := Lib.hid (HD3.out.later hb3); clear hr3 hb3; obtain ⟨r0, r1, r2, r3, r4⟩ := HD4.out.res.cells5; have f0 := HD4.out.res.frozen 0; have f1 := HD4.out.res.frozen 1; have f2 := HD4.out.res.frozen 2; have f3 := HD4.out.res.frozen 3; have f4 := HD4.out.res.frozen 4)
          | fail "no")
        exact im_end _ _ HD4.out.zero.1 rfl rfl ⟨by rw [HDC1.out, HDP1.out]; exact imRes_zero _ _ cd, HD4.out.zero.2⟩
    · obtain rfl : k = P := by omega
      have hlen : (rws pl).length = k := by rw [rws_len, HPL.out]
      have hfi0 : firstC gen g 0 (rws pl) = 0 := by rw [HFI.out, List.drop_of_length_le (by omega)]; rfl
      have hacc : acc = restsL g (rws pl) := by rw [HACC.out, List.take_of_length_le (by omega)]
      have hdc : DC = if picB s t q acc l = true then 0 else 4 := by rw [HDC.out, if_pos hfi0, hacc]
      have hdp : DP = if DC = 0 then picAt acc s l else zeroPic := by rw [HDP.out, hacc]
      have hab : acc.length ≤ 1000000 := by rw [HAL.out]; exact Nat.mul_le_mul (show k ≤ 1000 by omega) hg1.2
      have hTa : 12 + 9 * s + 4 * l ≤ acc.length := by
        have h1 := HG.out.all
        have h2 := HG.out.t
        rw [HAL.out]
        have h3 := HS.out
        have h4 := HL.out
        omega
      have hsb : s ≤ 3000 ∧ l ≤ 5000 := by
        have h1 := HG.out.t1
        have h2 := HG.out.t
        have h3 := HS.out
        have h4 := HL.out
        omega
      have HAB := Lib.hid hab
      have HTA := Lib.hid hTa
      obtain ⟨A8, c8, rfl, hr8, hc8, -⟩ := own_formc HROW.out
      have HR8 := Lib.hid hr8
      have HDC1 := Lib.hid hdc
      have HDP1 := Lib.hid hdp
      have hrd : Calls Try.prog 33 #[.slice A8 acc.length c8] wr fun e w' => ∃ G h, e = .returned (.pointer (some ⟨G, 0, none⟩)) ∧ Dp w w' w.heap.size (w.heap.size + 1) G h x (acc.drop 0) := by
        refine (read_ok A8 c8 acc wr hr8 (by omega)).mono ?_
        rintro e w' ⟨G, h, rfl, hG, hH, hre, hb⟩
        have hd := HD3.out.later hb
        exact ⟨G, h, rfl, hd.sh, hd.res, hre, hd.bel, by omega, Nat.le_trans HD3.out.bel.size hG, hre.lt (by omega)⟩
      have HRD := Lib.hid hrd
      clear hlen hfi0 hacc hdc hdp hab hTa hrd hr8 t0 t1 t2 t3 t4 t5
      have HT1 : Hid (∀ W S R G h, Dp w W S R G h x (acc.drop 0) → Calls Try.prog 34 #[.pointer (some ⟨G, 0, none⟩), .int .i64 8] W fun e w' => e = .returned (.int .u64 (nf acc 0 8)) ∧ Dp w w' S R G h x (acc.drop 8)) := Lib.hid fun W S R G h k => takeP k 8 8 rfl (by have := HTA.out; omega) HAB.out HAO.out
      have HT2 : Hid (∀ W S R G h, Dp w W S R G h x (acc.drop 8) → Calls Try.prog 34 #[.pointer (some ⟨G, 0, none⟩), .int .i64 2] W fun e w' => e = .returned (.int .u64 (nf acc 8 2)) ∧ Dp w w' S R G h x (acc.drop 10)) := Lib.hid fun W S R G h k => takeP k 2 2 rfl (by have := HTA.out; omega) HAB.out HAO.out
      have HT3 : Hid (∀ W S R G h, Dp w W S R G h x (acc.drop 10) → Calls Try.prog 34 #[.pointer (some ⟨G, 0, none⟩), .int .i64 2] W fun e w' => e = .returned (.int .u64 (nf acc 10 2)) ∧ Dp w w' S R G h x (acc.drop 12)) := Lib.hid fun W S R G h k => takeP k 2 2 rfl (by have := HTA.out; omega) HAB.out HAO.out
      have b2 := nf_lt HAO.out 8 (n := 2) (by decide)
      have b3 := nf_lt HAO.out 10 (n := 2) (by decide)
      obtain ⟨sq, hsq⟩ : ∃ sq, sq = nf acc 0 8 := ⟨_, rfl⟩
      obtain ⟨sg, hsg⟩ : ∃ sg, sg = nf acc 8 2 := ⟨_, rfl⟩
      obtain ⟨ix, hix⟩ : ∃ ix, ix = nf acc 10 2 := ⟨_, rfl⟩
      rw [← hsq] at HT1
      rw [← hsg] at HT2 b2
      rw [← hix] at HT3 b3
      have HSQ := Lib.hid hsq
      have HSG := Lib.hid hsg
      have HIX := Lib.hid hix
      clear hsq hsg hix
      have e1 : IntKind.i64.wrap (sg : Int) = sg := IntWalk.i64_in _ (by omega)
      have e2 : IntKind.i64.wrap (ix : Int) = ix := IntWalk.i64_in _ (by omega)
      have e3 : IntKind.i64.wrap ((sg : Int) - 1) = (sg : Int) - 1 := IntWalk.i64_in _ (by omega)
      obtain ⟨S, hS⟩ : ∃ S, S = w.heap.size := ⟨_, rfl⟩
      have HSS := Lib.hid hS
      obtain ⟨ac, hac⟩ : ∃ ac, (decide ((sg : Int) - 1 < s) && decide ((ix : Int) < t)) = ac := ⟨_, rfl⟩
      have HAC := Lib.hid hac
      clear hac
      go_upto_region 16 with (first
          | (go_at_call 33; (with_reducible refine HRD.out.mono ?_); rintro e w3 ⟨G, h, rfl, hd⟩; have HP0 := Lib.hid hd; clear hd)
          | (go_at_call 34; (with_reducible refine (HT1.out _ _ _ _ _ HP0.out).mono ?_); rintro e w4 ⟨rfl, hd⟩; have HP1 := Lib.hid hd; clear hd)
          | (go_at_call 34; (with_reducible refine (HT2.out _ _ _ _ _ HP1.out).mono ?_); rintro e w5 ⟨rfl, hd⟩; have HP2 := Lib.hid hd; clear hd)
          | (go_at_call 34; (with_reducible refine (HT3.out _ _ _ _ _ HP2.out).mono ?_); rintro e w6 ⟨rfl, hd⟩; have HP3 := Lib.hid hd; clear hd)
          | fail "no")
      have hdq : Dq w (w6.alloc (.cells #[.int .u64 sq, .int .i64 ((sg : Int) - 1), .int .i64 ix, .slice none 0 0, .slice none 0 0] 28)) (w6.heap.size + 1) w.heap.size (w.heap.size + 1) w6.heap.size G h x sq ((sg : Int) - 1) ix (.slice none 0 0) [] (.slice none 0 0) [] (acc.drop 12) := by
        obtain ⟨cr, hcr⟩ := HP3.out.re.blk
        exact ⟨HP3.out.later ((Below.refl w6.heap.size w6).alloc (Nat.le_refl _) _), Blk.new w6 28 _, World.ownsRow_nil _ _ _ _, World.ownsRow_nil _ _ _ _, HP3.out.sh.lt, HP3.out.res.lt, hcr.lt, HP3.out.far.2.2, Nat.lt_succ_self _⟩
      have HDQ := Lib.hid hdq
      clear HT1 HT2 HT3 HRD HP0 HP1 HP2 HP3 hdq e1 e2 e3
      generalize w6.alloc (.cells #[.int .u64 sq, .int .i64 ((sg : Int) - 1), .int .i64 ix, .slice none 0 0, .slice none 0 0] 28) = W0 at HDQ ⊢
      obtain ⟨X, hX⟩ : ∃ X, X = w6.heap.size := ⟨_, rfl⟩
      rw [← hX] at HDQ ⊢
      clear hX w3 w4 w5 w6
      obtain ⟨t0, t1, t2, t3, t4, t5⟩ := HDQ.out.dp.sh.cells6
      obtain ⟨m0, m1, m2, m3, m4⟩ := HDQ.out.im.cells5
      go_cut [15] (fun ok wx => ok = .bool ac ∧ wx = W0)
      case first =>
        by_cases h1 : (sg : Int) - 1 < x.s
        · have hd1 : decide ((sg : Int) - 1 < x.s) = true := decide_eq_true h1
          go_wp2_with fail
          go_meet
          refine ⟨?_, rfl⟩
          rw [← HAC.out, ← HS.out, ← HT.out, hd1]
          rfl
        · have hd1 : decide ((sg : Int) - 1 < x.s) = false := decide_eq_false h1
          go_wp2_with fail
          go_meet
          refine ⟨?_, rfl⟩
          rw [← HAC.out, ← HS.out, ← HT.out, hd1]
          rfl
      case rest =>
        obtain ⟨rfl, rfl⟩ := hcut
        go_wp2_with fail
        clear t0 t1 t2 t3 t4 t5 m0 m1 m2 m3 m4
        go_loopw [15, 16, 79] (fun ok _ i wr => ∃ k v3, k ≤ s ∧ i = .int .i64 (k : Nat) ∧ ok = .bool (ac && (segsAt acc k).all (fun c => decide (c.1 ≤ 2))) ∧ Dq w wr (X + 1) w.heap.size (w.heap.size + 1) X G h x sq ((sg : Int) - 1) ix v3 (segsAt acc k) (.slice none 0 0) [] (acc.drop (12 + 9 * k))) (fun _ _ i _ => s - (intOf i).toNat)
        case atStart => exact ⟨0, _, by omega, rfl, by simp [segsAt], HDQ.out⟩
        case round =>
          rename World => w9
          obtain ⟨k, v3, hk2, rfl, rfl, hD⟩ := hrel
          have HD := Lib.hid hD
          by_cases hlt : k < s
          · have g1 : (k : Int) < x.s := by have := HS.out; omega
            have ht1 : ∀ W, Dq w W (X + 1) w.heap.size (w.heap.size + 1) X G h x sq ((sg : Int) - 1) ix v3 (segsAt acc k) (.slice none 0 0) [] (acc.drop (12 + 9 * k)) → Calls Try.prog 34 #[.pointer (some ⟨G, 0, none⟩), .int .i64 1] W fun e w' => e = .returned (.int .u64 (nf acc (12 + 9 * k) 1)) ∧ Dq w w' (X + 1) w.heap.size (w.heap.size + 1) X G h x sq ((sg : Int) - 1) ix v3 (segsAt acc k) (.slice none 0 0) [] (acc.drop (13 + 9 * k)) := fun W q => by
              rw [show 13 + 9 * k = 12 + 9 * k + 1 by omega]
              exact takeQ q 1 1 rfl (by have := HTA.out; omega) HAB.out HAO.out
            have ht2 : ∀ W, Dq w W (X + 1) w.heap.size (w.heap.size + 1) X G h x sq ((sg : Int) - 1) ix v3 (segsAt acc k) (.slice none 0 0) [] (acc.drop (13 + 9 * k)) → Calls Try.prog 34 #[.pointer (some ⟨G, 0, none⟩), .int .i64 8] W fun e w' => e = .returned (.int .u64 (nf acc (13 + 9 * k) 8)) ∧ Dq w w' (X + 1) w.heap.size (w.heap.size + 1) X G h x sq ((sg : Int) - 1) ix v3 (segsAt acc k) (.slice none 0 0) [] (acc.drop (21 + 9 * k)) := fun W q => by
              rw [show 21 + 9 * k = 13 + 9 * k + 8 by omega]
              exact takeQ q 8 8 rfl (by have := HTA.out; omega) HAB.out HAO.out
            have b1 := nf_lt HAO.out (12 + 9 * k) (n := 1) (by decide)
            have hes := segsAt_snoc acc k
            unfold segAt at hes
            obtain ⟨a, ha⟩ : ∃ a, a = nf acc (12 + 9 * k) 1 := ⟨_, rfl⟩
            obtain ⟨b, hb⟩ : ∃ b, b = nf acc (13 + 9 * k) 8 := ⟨_, rfl⟩
            rw [← ha] at ht1 b1 hes
            rw [← hb] at ht2 hes
            have HT1 := Lib.hid ht1
            have HT2 := Lib.hid ht2
            have HES := Lib.hid hes
            have e1 : IntKind.i64.wrap (a : Int) = a := IntWalk.i64_in _ (by omega)
            have hn3 := hD.r3
            rw [segsAt_len] at hn3
            obtain ⟨A3, c3, rfl, -, -, -⟩ := own_formc hn3
            have q6 := (hD.im).cells5.2.2.2.1
            have hok2 : ∀ cc : List (Nat × Nat), (cc ++ [(a, b)]).all (fun c => decide (c.1 ≤ 2)) = (cc.all (fun c => decide (c.1 ≤ 2)) && decide (a ≤ 2)) := fun cc => by rw [List.all_append]; simp
            have HOK2 := Lib.hid hok2
            clear ha hb ht1 ht2 hes hD hn3 hok2
            obtain ⟨t0, t1, t2, t3, t4, t5⟩ := HD.out.dp.sh.cells6
            obtain ⟨ok, hok⟩ : ∃ ok, ok = (ac && (segsAt acc k).all (fun c => decide (c.1 ≤ 2))) := ⟨_, rfl⟩
            rw [← hok]
            have HOK := Lib.hid hok.symm
            clear hok
            rcases ok with _ | _
            · skip
              go_wp2_with (first
                | (go_at_call 34; (with_reducible refine (HT1.out _ HD.out).mono ?_); rintro e w6 ⟨rfl, hD6⟩; have HD6 := Lib.hid hD6; clear hD6)
                | (go_at_call 34; (with_reducible refine (HT2.out _ HD6.out).mono ?_); rintro e w7 ⟨rfl, hD7⟩; have HD7 := Lib.hid hD7; have q7 := (hD7.im.alloc (.cells #[.int .i64 a, .int .u64 b] 72)).cells5.2.2.2.1; have hro := hD7.r3; rw [segsAt_len] at hro; have HRO := Lib.hid hro; have HX7 : Hid (X + 1 ≤ w7.heap.size) := Lib.hid hD7.im.lt; clear hD7 hro)
                | (at_builtin; refine wpList_append_any _ rfl _ _ 25 rfl (X + 1) 72 j0 _ 2 16 Try.underlying25 hj0 y0 y1 y2 rfl (by decide) _ k (sgs (segsAt acc k)) rfl ((HRO.out.alloc _).alloc _) (some ⟨w7.heap.size + 1, 0, none⟩) 1 1 (sgv (a, b)) rfl rfl (Rd.blk_all (Blk.new_ _ _ _ (by simp))) (by intro u hu; simp [sgv] at hu; rcases hu with rfl | rfl <;> rfl) (by unfold maxLen; omega) (by omega) (by have := HX7.out; simp; omega) ?_; intro v8 w8 hown8 hg8 hat8; obtain ⟨A9, c9, rfl, -, -, -⟩ := own_formc hown8; obtain ⟨p8, f8⟩ := HD7.out.open3 (((Below.refl w7.heap.size w7).alloc (Nat.le_refl _) _).alloc (by simp) _) hg8; have HP := Lib.hid (HD7.out.push3 (((Below.refl w7.heap.size w7).alloc (Nat.le_refl _) _).alloc (by simp) _) hg8 (a, b) (by rw [segsAt_len]; exact hown8)); clear hown8 hg8 hat8))
              go_roundw
              case rel => exact ⟨k + 1, _, by omega, by go_num, congrArg Value.bool (by rw [HES.out, HOK2.out, ← Bool.and_assoc, HOK.out]; rfl), by rw [HES.out, show 12 + 9 * (k + 1) = 21 + 9 * k by omega]; exact HP.out⟩
              case measure => simp [intOf]; omega
            · skip
              go_wp2_with (first
                | (go_at_call 34; (with_reducible refine (HT1.out _ HD.out).mono ?_); rintro e w6 ⟨rfl, hD6⟩; have HD6 := Lib.hid hD6; clear hD6)
                | (go_at_call 34; (with_reducible refine (HT2.out _ HD6.out).mono ?_); rintro e w7 ⟨rfl, hD7⟩; have HD7 := Lib.hid hD7; have q7 := (hD7.im.alloc (.cells #[.int .i64 a, .int .u64 b] 72)).cells5.2.2.2.1; have hro := hD7.r3; rw [segsAt_len] at hro; have HRO := Lib.hid hro; have HX7 : Hid (X + 1 ≤ w7.heap.size) := Lib.hid hD7.im.lt; clear hD7 hro)
                | (at_builtin; refine wpList_append_any _ rfl _ _ 25 rfl (X + 1) 72 j0 _ 2 16 Try.underlying25 hj0 y0 y1 y2 rfl (by decide) _ k (sgs (segsAt acc k)) rfl ((HRO.out.alloc _).alloc _) (some ⟨w7.heap.size + 1, 0, none⟩) 1 1 (sgv (a, b)) rfl rfl (Rd.blk_all (Blk.new_ _ _ _ (by simp))) (by intro u hu; simp [sgv] at hu; rcases hu with rfl | rfl <;> rfl) (by unfold maxLen; omega) (by omega) (by have := HX7.out; simp; omega) ?_; intro v8 w8 hown8 hg8 hat8; obtain ⟨A9, c9, rfl, -, -, -⟩ := own_formc hown8; obtain ⟨p8, f8⟩ := HD7.out.open3 (((Below.refl w7.heap.size w7).alloc (Nat.le_refl _) _).alloc (by simp) _) hg8; have HP := Lib.hid (HD7.out.push3 (((Below.refl w7.heap.size w7).alloc (Nat.le_refl _) _).alloc (by simp) _) hg8 (a, b) (by rw [segsAt_len]; exact hown8)); clear hown8 hg8 hat8))
              go_roundw
              case rel => exact ⟨k + 1, _, by omega, by go_num, congrArg Value.bool (by rw [HES.out, HOK2.out, ← Bool.and_assoc, HOK.out]; rw [Bool.true_and]; exact decide_eq_decide.2 (by omega)), by rw [HES.out, show 12 + 9 * (k + 1) = 21 + 9 * k by omega]; exact HP.out⟩
              case measure => simp [intOf]; omega
          · obtain rfl : k = s := by omega
            have g1 : ¬ (k : Int) < x.s := by have := HS.out; omega
            clear hD HDQ
            obtain ⟨ok1, hok1⟩ : ∃ ok1, ok1 = (ac && (segsAt acc k).all (fun c => decide (c.1 ≤ 2))) := ⟨_, rfl⟩
            rw [← hok1]
            have HOK1 := Lib.hid hok1
            obtain ⟨ss, hss⟩ : ∃ ss, ss = segsAt acc k := ⟨_, rfl⟩
            rw [← hss] at HD
            have HSG2 := Lib.hid hss
            clear hok1 hss
            obtain ⟨t0, t1, t2, t3, t4, t5⟩ := HD.out.dp.sh.cells6
            go_wp2_with fail
            clear t0 t1 t2 t3 t4 t5
            go_loopw [15, 17, 102] (fun ok _ i wr => ∃ j v4, j ≤ l ∧ i = .int .i64 (j : Nat) ∧ ok = .bool (ok1 && (mapsAt acc k j).all (fun p => decide ((p : Int) - 1 < q))) ∧ Dq w wr (X + 1) w.heap.size (w.heap.size + 1) X G h x sq ((sg : Int) - 1) ix v3 ss v4 (mapsAt acc k j) (acc.drop (12 + 9 * k + 4 * j))) (fun _ _ i _ => l - (intOf i).toNat)
            case atStart => exact ⟨0, _, by omega, rfl, by simp [mapsAt], HD.out⟩
            case round =>
              clear HD
              rename World => w8
              obtain ⟨j, v4, hj2, rfl, rfl, hD⟩ := hrel
              have HD := Lib.hid hD
              by_cases hlt2 : j < l
              · have g2 : (j : Int) < x.l := by have := HL.out; omega
                have hn4 := hD.r4
                rw [mapsAt_len] at hn4
                obtain ⟨A4, c4, rfl, -, -, -⟩ := own_formc hn4
                have ht1 : ∀ W, Dq w W (X + 1) w.heap.size (w.heap.size + 1) X G h x sq ((sg : Int) - 1) ix v3 ss (.slice A4 j c4) (mapsAt acc k j) (acc.drop (12 + 9 * k + 4 * j)) → Calls Try.prog 34 #[.pointer (some ⟨G, 0, none⟩), .int .i64 4] W fun e w' => e = .returned (.int .u64 (nf acc (12 + 9 * k + 4 * j) 4)) ∧ Dq w w' (X + 1) w.heap.size (w.heap.size + 1) X G h x sq ((sg : Int) - 1) ix v3 ss (.slice A4 j c4) (mapsAt acc k j) (acc.drop (12 + 9 * k + 4 * (j + 1))) := fun W q => by
                  rw [show 12 + 9 * k + 4 * (j + 1) = 12 + 9 * k + 4 * j + 4 by omega]
                  exact takeQ q 4 4 rfl (by have := HTA.out; omega) HAB.out HAO.out
                have b1 := nf_lt HAO.out (12 + 9 * k + 4 * j) (n := 4) (by decide)
                have hes := mapsAt_snoc acc k j
                unfold mapAt at hes
                obtain ⟨a, ha⟩ : ∃ a, a = nf acc (12 + 9 * k + 4 * j) 4 := ⟨_, rfl⟩
                rw [← ha] at ht1 b1 hes
                have HT1 := Lib.hid ht1
                have HES := Lib.hid hes
                have f1 : IntKind.i64.wrap (a : Int) = a := IntWalk.i64_in _ (by omega)
                have f2 : IntKind.i64.wrap ((a : Int) - 1) = (a : Int) - 1 := IntWalk.i64_in _ (by omega)
                have hok2 : ∀ cc : List Nat, (cc ++ [a]).all (fun p => decide ((p : Int) - 1 < q)) = (cc.all (fun p => decide ((p : Int) - 1 < q)) && decide ((a : Int) - 1 < q)) := fun cc => by rw [List.all_append]; simp
                have HOK2 := Lib.hid hok2
                obtain ⟨ok, hok⟩ : ∃ ok, ok = (ok1 && (mapsAt acc k j).all (fun p => decide ((p : Int) - 1 < q))) := ⟨_, rfl⟩
                rw [← hok]
                have HOK := Lib.hid hok.symm
                clear hok ha ht1 hes hD hn4 hok2
                go_upto_region 26 with (first
                  | (go_at_call 34; (with_reducible refine (HT1.out _ HD.out).mono ?_); rintro e w6 ⟨rfl, hD6⟩; have HD6 := Lib.hid hD6; clear hD6))
                clear HT1 HD
                obtain ⟨t0, t1, t2, t3, t4, t5⟩ := HD6.out.dp.sh.cells6
                obtain ⟨d0, d1, d2, d3, d4, d5⟩ := (HD6.out.later (below_drewN (Below.refl _ _) 1)).dp.sh.cells6
                have HDd : Hid (Dq w w6.drew (X + 1) w.heap.size (w.heap.size + 1) X G h x sq ((sg : Int) - 1) ix v3 ss (.slice A4 j c4) (mapsAt acc k j) (acc.drop (12 + 9 * k + 4 * (j + 1)))) := Lib.hid (HD6.out.later (below_drewN (Below.refl _ _) 1))
                go_cut [15] (fun o wx => o = .bool (ok && decide ((a : Int) - 1 < q)) ∧ Dq w wx (X + 1) w.heap.size (w.heap.size + 1) X G h x sq ((sg : Int) - 1) ix v3 ss (.slice A4 j c4) (mapsAt acc k j) (acc.drop (12 + 9 * k + 4 * (j + 1))))
                case first =>
                  rcases ok with _ | _
                  · go_quiet (fail)
                    go_wp2_with fail
                    go_meet
                    exact ⟨rfl, HD6.out.later (below_drewN (Below.refl _ _) _)⟩
                  · go_region_held3 (fun w' => w'.cell? ⟨w.heap.size, 0, none⟩ = some (.int .i64 x.m) ∧ w'.cell? ⟨w.heap.size, 1, none⟩ = some (.int .i64 x.b) ∧ w'.cell? ⟨w.heap.size, 2, none⟩ = some (.int .i64 x.s) ∧ w'.cell? ⟨w.heap.size, 3, none⟩ = some (.int .i64 x.t) ∧ w'.cell? ⟨w.heap.size, 4, none⟩ = some (.int .i64 x.n) ∧ w'.cell? ⟨w.heap.size, 5, none⟩ = some (.int .i64 x.l))
                      (exact ⟨by assumption, by assumption, by assumption, by assumption, by assumption, by assumption⟩)
                      (first
                        | (go_at_call 35; (with_reducible refine (HALL.out w6.drew).mono ?_); rintro e u1 ⟨rfl, hb1⟩; have HDa := Lib.hid (HDd.out.later hb1); clear hb1; obtain ⟨a0, a1, a2, a3, a4, a5⟩ := HDa.out.dp.sh.cells6)
                        | (go_at_call 23; (with_reducible refine (HSLO.out u1).mono ?_); rintro e u2 ⟨rfl, hb2⟩; have HDb := Lib.hid (HDa.out.later hb2); clear hb2; obtain ⟨b0, b1, b2, b3, b4, b5⟩ := HDb.out.dp.sh.cells6)
                        | fail "no arm")
                    all_goals
                      go_wp2_with fail
                      go_meet
                      exact ⟨rfl, HDb.out⟩
                case rest =>
                  clear t0 t1 t2 t3 t4 t5 d0 d1 d2 d3 d4 d5 HDd HD6
                  obtain ⟨rfl, hD⟩ := hcut
                  have HD7 := Lib.hid hD
                  have q7 := hD.im.cells5.2.2.2.2
                  have hro := hD.r4
                  rw [mapsAt_len] at hro
                  have HRO := Lib.hid hro
                  have HX7 : Hid (X + 1 ≤ wc.heap.size) := Lib.hid hD.im.lt
                  clear hD hro
                  go_wp2_with (at_builtin; refine wpList_append_any _ rfl _ _ 26 rfl (X + 1) 3 l0 _ 1 8 Try.underlying26 hl0 x0 x1 x2 rfl (by decide) _ j (mps (mapsAt acc k j)) rfl (HRO.out.alloc _) (some ⟨wc.heap.size, 0, none⟩) 1 1 [.int .i64 ((a : Int) - 1)] rfl rfl (Rd.one _ _ _ rfl) (by intro u hu; simp at hu; subst hu; rfl) (by unfold maxLen; omega) (by omega) (by have := HX7.out; simp; omega) ?_; intro v8 w8 hown8 hg8 hat8; obtain ⟨A9, c9, rfl, -, -, -⟩ := own_formc hown8; obtain ⟨p8, f8⟩ := HD7.out.open4 ((Below.refl wc.heap.size wc).alloc (Nat.le_refl _) _) hg8; have HP := Lib.hid (HD7.out.push4 ((Below.refl wc.heap.size wc).alloc (Nat.le_refl _) _) hg8 a (by rw [mapsAt_len]; exact hown8)); clear hown8 hg8 hat8)
                  go_roundw
                  case rel => exact ⟨j + 1, _, by omega, by go_num, congrArg Value.bool (by rw [HES.out, HOK2.out, ← Bool.and_assoc, HOK.out]), by rw [HES.out]; exact HP.out⟩
                  case measure => simp [intOf]; omega
              · obtain rfl : j = l := by omega
                have g2 : ¬ (j : Int) < x.l := by have := HL.out; omega
                clear hD
                obtain ⟨ok2, hok2⟩ : ∃ ok2, ok2 = (ok1 && (mapsAt acc k j).all (fun p => decide ((p : Int) - 1 < q))) := ⟨_, rfl⟩
                rw [← hok2]
                have HOK2 := Lib.hid hok2
                obtain ⟨ms, hms⟩ : ∃ ms, ms = mapsAt acc k j := ⟨_, rfl⟩
                rw [← hms] at HD
                have HMS := Lib.hid hms
                obtain ⟨rs, hrs⟩ : ∃ rs, rs = acc.drop (12 + 9 * k + 4 * j) := ⟨_, rfl⟩
                have hrl : rs.length ≤ 1000000 := by rw [hrs, List.length_drop]; have := HAB.out; omega
                have hro : Oct rs := by rw [hrs]; exact HAO.out.drop _
                rw [← hrs] at HD
                have HRS := Lib.hid hrs
                have HRO := Lib.hid hro
                have hrest := rest_ok G h rs w8 HD.out.dp.re (by omega)
                have HREST := Lib.hid hrest
                have HRL := Lib.hid hrl
                clear hok2 hms hrs hrl hro hrest
                go_wp2_with (first
                  | (go_at_call 36; (with_reducible refine HREST.out.mono ?_); rintro e wb ⟨rr, rfl, hown, hb⟩; have HDB := Lib.hid (HD.out.later hb); obtain ⟨Ar, cr, rfl, hrr, hcr, -⟩ := own_formc hown; have HRR := Lib.hid hrr; clear hown hb hrr))
                go_loopw [15, 19, 128] (fun o _ i wr => ∃ n : Nat, n ≤ rs.length ∧ i = .int .i64 n ∧ o = .bool (ok2 && zer (rs.take n)) ∧ EqW wr wb) (fun _ _ i _ => rs.length - (intOf i).toNat)
                case atStart => exact ⟨0, by omega, rfl, by simp [zer], rfl⟩
                case round =>
                  rename World => w7
                  obtain ⟨n, hn, rfl, rfl, hE⟩ := hrel
                  cases (show w7 = wb from hE)
                  clear hE
                  have hrb := HRL.out
                  by_cases hlt3 : n < rs.length
                  · obtain ⟨y, hy⟩ : ∃ y, rs[n]? = some y := ⟨_, List.getElem?_eq_getElem hlt3⟩
                    obtain ⟨ad, rfl, a0⟩ := HRR.out n (.int .u8 y) (by unfold byv; rw [List.getElem?_map, hy]; rfl)
                    have g3 : (n : Int) < rs.length := by omega
                    have g4 : (0 : Int) ≤ n := by omega
                    have hz := zer_snoc (rs.take n) y
                    rw [← take_snoc_pk hy] at hz
                    have HZ := Lib.hid hz
                    obtain ⟨ok, hok⟩ : ∃ ok, ok = (ok2 && zer (rs.take n)) := ⟨_, rfl⟩
                    rw [← hok]
                    have HOK := Lib.hid hok.symm
                    clear hz hy hok
                    rcases ok with _ | _
                    · go_wp2_with fail
                      go_roundw
                      case rel => exact ⟨n + 1, by omega, by go_num, congrArg Value.bool (by rw [HZ.out, ← Bool.and_assoc, HOK.out]; rfl), rfl⟩
                      case measure => simp [intOf]; omega
                    · go_wp2_with fail
                      go_roundw
                      case rel => exact ⟨n + 1, by omega, by go_num, congrArg Value.bool (by rw [HZ.out, ← Bool.and_assoc, HOK.out]; rfl), rfl⟩
                      case measure => simp [intOf]; omega
                  · obtain rfl : n = rs.length := by omega
                    have hpic : picB k t q acc j = (ok2 && zer rs) := by
                      have hix2 : decide ((ix : Int) < (t : Int)) = decide (ix < t) := decide_eq_decide.2 (by omega)
                      rw [HRS.out, HOK2.out, HOK1.out, ← HAC.out, hix2, HSG.out, HIX.out]
                      rfl
                    rw [List.take_length]
                    have hdc := HDC1.out
                    rw [hpic] at hdc
                    obtain ⟨ok, hok⟩ : ∃ ok, ok = (ok2 && zer rs) := ⟨_, rfl⟩
                    rw [← hok] at hdc ⊢
                    have HDC2 := Lib.hid hdc
                    clear hdc hpic hok
                    have hpc : picAt acc k j = ⟨sq, sg, ix, ss, ms⟩ := by rw [HSQ.out, HSG.out, HIX.out, HSG2.out, HMS.out]; rfl
                    have HPC := Lib.hid hpc
                    clear hpc
                    rcases ok with _ | _
                    · obtain ⟨r0, r1, r2, r3, r4⟩ := HDB.out.dp.res.cells5
                      have f0 := HDB.out.dp.res.frozen 0
                      have f1 := HDB.out.dp.res.frozen 1
                      have f2 := HDB.out.dp.res.frozen 2
                      have f3 := HDB.out.dp.res.frozen 3
                      have f4 := HDB.out.dp.res.frozen 4
                      have hd0 : D0 w wb x := ⟨HDB.out.dp.sh, HDB.out.dp.res, HDB.out.dp.bel⟩
                      have HD0 := Lib.hid hd0
                      have hdc : DC = 4 := HDC2.out
                      have hdp : DP = zeroPic := by rw [HDP1.out, hdc]; rfl
                      have HDC3 := Lib.hid hdc
                      have HDP3 := Lib.hid hdp
                      clear hd0 hdc hdp
                      go_wp2_with fail
                      exact im_end _ _ HD0.out.zero.1 rfl rfl ⟨by rw [HDC3.out, HDP3.out]; exact imRes_zero _ _ 4, HD0.out.zero.2⟩
                    · have hdc : DC = 0 := HDC2.out
                      have hdp : DP = ⟨sq, sg, ix, ss, ms⟩ := by rw [HDP1.out, hdc, ← HPC.out]; rfl
                      have HDC3 := Lib.hid hdc
                      have HDP3 := Lib.hid hdp
                      obtain ⟨A3, c3, rfl, -, -, hb3⟩ := own_formc HDB.out.r3
                      obtain ⟨A4, c4, rfl, -, -, hb4⟩ := own_formc HDB.out.r4
                      have HB3 := Lib.hid hb3
                      have HB4 := Lib.hid hb4
                      clear hb3 hb4
                      obtain ⟨r0, r1, r2, r3, r4⟩ := HDB.out.dp.res.cells5
                      have f0 := HDB.out.dp.res.frozen 0
                      have f1 := HDB.out.dp.res.frozen 1
                      have f2 := HDB.out.dp.res.frozen 2
                      have f3 := HDB.out.dp.res.frozen 3
                      have f4 := HDB.out.dp.res.frozen 4
                      obtain ⟨m0, m1, m2, m3, m4⟩ := HDB.out.im.cells5
                      clear hdc hdp
                      go_wp2_with fail
                      obtain ⟨d1, d2, d3, d4⟩ := HDB.out.done
                      refine im_end _ _ d1 rfl rfl ⟨?_, d4⟩
                      rw [HDC3.out, HDP3.out]
                      exact ⟨A3, c3, A4, c4, rfl, Rd.of_own d2, Rd.of_own d3, fun ad e => by have := HB3.out ad e; have := HDB.out.far.1; omega, fun ad e => by have := HB4.out ad e; have := HDB.out.far.1; omega⟩
end Go.Proofs.Ytcpngnnnggpfpaa
