/- XorBack. No further condition. -/
import Derived.Test.YtnahblhjjpjnbaaXv
namespace Go.Proofs.Ytnahblhjjpjnbaa
open Go.RowKit
open Go.Proofs.YtnahblhjjpjnbaaW.PrintWords (Kd rd)

theorem rep_flat (m : Nat) (x : Value) : (List.replicate m [x]).flatten = List.replicate m x := by
  induction m with
  | zero => rfl
  | succ m ih => rw [List.replicate_succ, List.flatten_cons, ih, List.replicate_succ]; rfl
attribute [local go_sem] go_max2 go_min2 go_max_two go_min_two
set_option maxHeartbeats 6400000 in
theorem xorBack_true (A : Option Addr) (c : Nat) (l0 : List (List Int)) (k z : Int) (w : World)
    (hr : Kd.C (Kd.slice 5 (Kd.int .u8)) w A l0.length l0) (hc : l0.length ≤ c) (hm : l0.length * 24 ≤ 140737488351232)
    (hw : ∀ x ∈ l0, x.length * 1 ≤ 140737488351232 ∧ ∀ y ∈ x, (Lit.int .u8 y).wf = true) (hk : (Lit.int .u8 k).wf = true) (hz : (Lit.int .u8 z).wf = true) :
    Calls Try.prog 7 #[.slice A l0.length c, .int .u8 k, .int .u8 z] w fun e w' => e = .returned (.bool true) ∧ Below w.heap.size w w' := by
  have haw := fun W => Q.drystonelaw06_Awake.calls 40 true W (Q.awake_tells 40 (Nat.le_refl _))
  obtain ⟨bb, hbb⟩ := Q.light_some l0 (by omega) (l0.length + 1) (Nat.le_refl _)
  obtain ⟨l, rfl, hrl, hhl⟩ := rows_of_C hr
  rw [rws_len] at hc hm ⊢
  have hli := fun W (h : Rd W A (scs l)) (h2 : Hsc W l) => Q.drystonelaw06_light.calls (l.length + 1) A c (rws l) bb W (C_of_rows h h2 (by omega)) (by rw [rws_len]; exact hc) (by rw [← rws_len l]; exact hbb)
  rw [rws_len] at hli
  have hin := u8_in_ hk
  have hiz := u8_in_ hz
  have HAW := Lib.hid haw
  have HLI := Lib.hid hli
  have HRL := Lib.hid hrl
  have HHL := Lib.hid hhl
  cases bb with
  | false =>
    clear hr hc hm hw hk hz haw hli hrl hhl hbb hin hiz
    go_enter Try.func7, Try.ntmps7
    go_wp2_with (first
      | (go_at_call 8; (with_reducible refine (HAW.out _).mono ?_); rintro e w1 ⟨rfl, hb1⟩; have HB1 := Lib.hid hb1; have HRL1 := Lib.hid (HRL.out.later hb1); have HHL1 := Lib.hid (HHL.out.later hb1); clear hb1)
      | (go_at_call 9; (with_reducible refine (HLI.out _ HRL1.out HHL1.out).mono ?_); rintro e w2 ⟨rfl, hd2⟩; have HB2 := Lib.hid (HB1.out.trans (hd2.below.mono HB1.out.size)); clear hd2)
      | fail "no")
    go_ret
    exact ⟨rfl, HB2.out⟩
  | true =>
    have hbr0 := Pure.rows_of hw
    rcases Nat.eq_zero_or_pos l.length with h0 | h0
    · rw [h0] at hli ⊢
      have HLI := Lib.hid hli
      clear hr hc hm hw hk hz haw hli hrl hhl hbb hin hiz hbr0
      go_enter Try.func7, Try.ntmps7
      go_wp2_with (first
        | (go_at_call 8; (with_reducible refine (HAW.out _).mono ?_); rintro e w1 ⟨rfl, hb1⟩; have HB1 := Lib.hid hb1; have HRL1 := Lib.hid (HRL.out.later hb1); have HHL1 := Lib.hid (HHL.out.later hb1); clear hb1)
        | (go_at_call 9; (with_reducible refine (HLI.out _ HRL1.out HHL1.out).mono ?_); rintro e w2 ⟨rfl, hd2⟩; have HB2 := Lib.hid (HB1.out.trans (hd2.below.mono HB1.out.size)); clear hd2)
        | fail "no")
      go_ret
      exact ⟨rfl, HB2.out⟩
    · have hn0 : ((l.length : Int) == 0) = false := beq_eq_false_iff_ne.2 (by omega)
      obtain ⟨kn, rfl⟩ : ∃ kn : Nat, k = kn := ⟨k.toNat, by omega⟩
      obtain ⟨zn, rfl⟩ : ∃ zn : Nat, z = zn := ⟨z.toNat, by omega⟩
      have hnz : ((l.length : Int) = 0) = False := eq_false (by omega)
      obtain ⟨m, hmz⟩ : ∃ m, m = 1 + zn % 40 := ⟨_, rfl⟩
      have hm40 : m ≤ 40 := by omega
      have HMZ := Lib.hid hmz
      clear hmz
      clear hr hw hk hz haw hli hrl hhl hbb
      go_enter Try.func7, Try.ntmps7
      go_wp2_with (first
        | (go_at_call 8; (with_reducible refine (HAW.out _).mono ?_); rintro e w1 ⟨rfl, hb1⟩; have HB1 := Lib.hid hb1; have HRL1 := Lib.hid (HRL.out.later hb1); have HHL1 := Lib.hid (HHL.out.later hb1); clear hb1)
        | (go_at_call 9; (with_reducible refine (HLI.out _ HRL1.out HHL1.out).mono ?_); rintro e w2 ⟨rfl, hd2⟩; have HB2 := Lib.hid (HB1.out.trans (hd2.below.mono HB1.out.size)); clear hd2)
        | fail "no")
      have HAL : Hid (Al w w2 (.slice none 0 0) []) := Lib.hid ((Al.nil w).later' HB2.out)
      clear HLI HRL1 HHL1 HB1
      go_loopw [7, 9, 10, 24] (fun v _ _ i wr => ∃ n es, n ≤ l.length ∧ i = .int .i64 (n : Nat) ∧ es.length = n ∧ (∀ s ∈ es, s.raw.length = m ∧ Q.Bytes s.raw) ∧ Al w wr v es) (fun _ _ _ i _ => l.length - (intOf i).toNat)
      case atStart => exact ⟨0, [], by omega, rfl, rfl, fun s hs => by simp at hs, HAL.out⟩
      case round =>
        obtain ⟨n, es, hn, rfl, hel, hes, hal⟩ := hrel
        by_cases hlt : n < l.length
        · obtain ⟨s, hs⟩ : ∃ s, l[n]? = some s := ⟨_, List.getElem?_eq_getElem hlt⟩
          have hbel := hal.bel
          obtain ⟨ad, rfl, a0⟩ := (HRL.out.later hbel) n (scv s) (by unfold scs; rw [List.getElem?_map, hs]; rfl)
          unfold scv at a0
          have hsb := HHL.out.later hbel s (List.mem_of_getElem? hs)
          have x0 : (0 : Int) ≤ n := by omega
          have x1 : (n : Int) < l.length := by omega
          have hsbl := hsb.1
          have hsr := bytes_of_C hsb.2
          have hsy := (hbr0 s.raw (List.mem_map_of_mem (List.mem_of_getElem? hs))).1
          subst hel
          obtain ⟨A7, c7, rfl, -, -, -⟩ := own_formc hal.row
          obtain ⟨i1, hi1, hy0, hy1, hy2⟩ := info_parts (show (Try.prog.info? 5).map (fun i => (i.zero, i.size, i.bytes)) = some (some (.int .u8 0), 1, 1) by kernel_rfl)
          obtain ⟨i0, hi0, hz0, hz1, hz2⟩ := info_parts (show (Try.prog.info? 25).map (fun i => (i.zero, i.size, i.bytes)) = some (some (.slice none 0 0), 1, 24) by kernel_rfl)
          have hmk : (Instr.makeSlice 25 (.int .u8 (1 + (zn : Int) % 40)) (.int .u8 (1 + (zn : Int) % 40))).run Try.prog wr = .ok (.slice (some ⟨wr.heap.size, 0, none⟩) m m) (wr.alloc (.cells (List.replicate m (Value.int .u8 0)).toArray 5)) := by
            have hmz := HMZ.out
            rw [show (1 + (zn : Int) % 40) = (m : Int) by omega, run_make_zeros 25 5 i1 (.int .u8 0) 1 1 Try.underlying25 hi1 hy0 hy1 hy2 rfl .u8 .u8 m (by omega) (by omega) wr]
            rw [show (List.replicate m (Value.int .u8 0).cells.toList).flatten = List.replicate m (Value.int .u8 0) from rep_flat m _]
          obtain ⟨X, hX⟩ : ∃ X : Sc, X = ⟨some ⟨wr.heap.size, 0, none⟩, cpy m s.raw, m⟩ := ⟨_, rfl⟩
          have hsX : scs [X] = [.slice (some ⟨wr.heap.size, 0, none⟩) m m] := by rw [hX]; simp [scs, scv, cpy_len]
          have HX := Lib.hid hX
          have HSX := Lib.hid hsX
          have HA := Lib.hid hal
          have HSR := Lib.hid (hsr.alloc (.cells (List.replicate m (Value.int .u8 0)).toArray 5))
          have HZ := Lib.hid (show Blk (wr.alloc (.cells (List.replicate m (Value.int .u8 0)).toArray 5)) wr.heap.size 5 (List.replicate m (Value.int .u8 0)).toArray from Blk.new wr 5 _)
          have hml : (s.raw.take m).length = Nat.min s.raw.length m := by rw [List.length_take]; exact Nat.min_comm _ _
          have hbs := hbel.size
          clear hX hsX hal hsr hsb
          go_upto_region 12 with (first
            | (refine wpList_copy_splice rfl _ _ 25 25 rfl 5 Try.underlying25 (by kernel_rfl) _ _ _ _ _ _ rfl rfl wr.heap.size 0 (List.replicate m (Value.int .u8 0)) 5 HZ.out (byv (s.raw.take m)) (by rw [byv_len]; exact hml) (fun hp => ⟨rfl, by have hr := (HSR.out.take_ m); rw [← byv_take] at hr; obtain ⟨ad, e, _⟩ := hr 0 _ (List.getElem?_eq_getElem hp); exact ⟨ad, e, fun j v hv => by obtain ⟨ad', e', hc⟩ := hr j v hv; rw [e] at e'; injection e' with e'; subst e'; exact hc⟩⟩) (by rw [byv_len, List.length_replicate, Nat.zero_add, List.length_take]; omega) (byv_one _) wr.heap.size wr ((Below.refl _ _).alloc (Nat.le_refl _) _) (Nat.le_refl _) ?_; intro wc HGc hbc; rw [cpy_splice] at HGc; have HOX : Hid (Ow w wc X) := Lib.hid (by rw [HX.out]; exact ⟨by rw [cpy_len]; exact Nat.le_refl _, Rd.blk_all (xs := byv (cpy m s.raw)) HGc.out, fun ad e => by injection e with e; subst e; exact ⟨⟨_, HGc.out⟩, hbs⟩⟩); have HAC := Lib.hid (HA.out.later hbc); clear hbc)
            | (at_builtin; refine wpList_append_any _ rfl _ _ 22 rfl w.heap.size 25 i0 _ 1 24 Try.underlying22 hi0 hz0 hz1 hz2 rfl (by decide) (.slice A7 es.length c7) es.length (scs es) rfl (HAC.out.row.alloc _) (some ⟨wc.heap.size, 0, none⟩) 1 1 [.slice (some ⟨wr.heap.size, 0, none⟩) m m] rfl rfl (Rd.blk_all (xs := [.slice (some ⟨wr.heap.size, 0, none⟩) m m]) (Blk.new wc 25 _)) (by intro u hu; simp at hu; subst hu; rfl) (by unfold maxLen; omega) (by omega) (by have := HAC.out.bel.size; simp; omega) ?_; intro v6 w6 hown6 hg6 hat6; rw [← HSX.out] at hown6; have HA6 := Lib.hid ((HAC.out.later ((Below.refl _ _).alloc (Nat.le_refl _) (.cells #[.slice (some ⟨wr.heap.size, 0, none⟩) m m] 25))).push (HOX.out.later ((Below.refl _ _).alloc (Nat.le_refl _) _)) hg6 hown6); clear hown6 hg6 hat6)
            | fail "no")
          go_wp2_with fail
          go_roundw
          case rel =>
            refine ⟨es.length + 1, es ++ [X], by omega, by go_num, by simp, fun x hx => ?_, HA6.out⟩
            rcases List.mem_append.1 hx with hx | hx
            · exact hes x hx
            · simp at hx
              rw [hx, HX.out]
              exact ⟨cpy_len _ _, cpy_bytes hsy⟩
          case measure => simp [intOf]; omega
        · obtain rfl : n = l.length := by omega
          obtain ⟨A7, c7, rfl, hr7, hc7, -⟩ := own_formc hal.row
          have hbel := hal.bel
          obtain ⟨i0, hi0, hz0, hz1, hz2⟩ := info_parts (show (Try.prog.info? 25).map (fun i => (i.zero, i.size, i.bytes)) = some (some (.slice none 0 0), 1, 24) by kernel_rfl)
          have hRm : ∀ x ∈ rws es, x.length = m := fun x hx => by
            obtain ⟨s, hs, rfl⟩ := List.mem_map.1 hx
            exact (hes s hs).1
          have hRb : Q.BRows (rws es) := fun x hx => by
            obtain ⟨s, hs, rfl⟩ := List.mem_map.1 hx
            exact ⟨(hes s hs).2, by rw [(hes s hs).1]; omega⟩
          obtain ⟨e1, e2, e3, e4, e5⟩ := back_law (rws es) m (by rw [rws_len]; omega) hRm hRb
          have hof := of_ok2 A7 c7 es wr hr7 (hal.hsc fun s hs => by rw [(hes s hs).1]; omega) hc7 hRb (by omega)
          rw [e1] at hof
          obtain ⟨p, hp⟩ : ∃ p, p = Q.L m (Q.xorAt (rws es)) := ⟨_, rfl⟩
          rw [← hp] at e2 e3 e4 e5 hof
          have hpl : p.length = m := by rw [hp, Q.L_length]
          obtain ⟨N, hN⟩ : ∃ N, N = es.length + 1 := ⟨_, rfl⟩
          obtain ⟨j, hj⟩ : ∃ j, j = kn % N := ⟨_, rfl⟩
          have hjl : j < N := hj ▸ Nat.mod_lt _ (by omega)
          have hmod : (kn : Int) % (N : Int) = (j : Int) := by rw [hj]; exact (Int.natCast_emod kn N).symm
          have hNz : ((N : Int) = 0) = False := eq_false (by omega)
          have hNm : (es.length + 1) * 24 ≤ 140737488355328 := by omega
          have hNm2 : N ≤ 5864062014700 := by omega
          have hlpos : 0 < es.length := by omega
          have HEL := Lib.hid hel
          have HMOD := Lib.hid hmod
          have HOF := Lib.hid hof
          have HA := Lib.hid hal
          have HN := Lib.hid hN
          have E5 := Lib.hid (e5 j (by rw [rws_len]; omega))
          have E2 := Lib.hid e2
          have E3 := Lib.hid e3
          have E4 := Lib.hid e4
          have HES := Lib.hid hes
          clear e1 e2 e3 e4 e5 hp hj hmod hof hal hRm hRb hr7 hes hel hN
          go_upto_region 14 with (first
            | (go_at_call 10; (with_reducible refine HOF.out.mono ?_); rintro e w5 ⟨Aa, ca, rfl, how, hb5⟩; have HOP := Lib.hid (how w hbel.size); have HA5 := Lib.hid (HA.out.later hb5); clear how hb5)
            | (at_builtin; refine wpList_append_any _ rfl _ _ 22 rfl w.heap.size 25 i0 _ 1 24 Try.underlying22 hi0 hz0 hz1 hz2 rfl (by decide) (.slice A7 es.length c7) es.length (scs es) rfl (HA5.out.row.alloc _) (some ⟨w5.heap.size, 0, none⟩) 1 1 [.slice Aa m ca] rfl rfl (Rd.blk_all (xs := [.slice Aa m ca]) (Blk.new w5 25 _)) (by intro u hu; simp at hu; subst hu; rfl) (by unfold maxLen; omega) (by omega) (by have := HA5.out.bel.size; simp; omega) ?_; intro v6 w6 hown6 hg6 hat6; rw [show [Value.slice Aa m ca] = scs [⟨Aa, p, ca⟩] by simp [scs, scv, hpl]] at hown6; have HA6 := Lib.hid ((HA5.out.later ((Below.refl _ _).alloc (Nat.le_refl _) (.cells #[.slice Aa m ca] 25))).push (HOP.out.later ((Below.refl _ _).alloc (Nat.le_refl _) _)) hg6 hown6); clear hown6 hg6 hat6)
            | fail "no")
          obtain ⟨E, hE⟩ : ∃ E, E = es ++ [(⟨Aa, p, ca⟩ : Sc)] := ⟨_, rfl⟩
          have hrE : rws es ++ [p] = rws E := by rw [hE]; simp [rws]
          have hlE : E.length = N := by rw [hE, HN.out]; simp
          rw [← hE] at HA6
          have hk6 := HA6.out
          have hrow := hk6.row
          rw [hlE] at hrow
          obtain ⟨A6, c6, rfl, hr6, hc6, -⟩ := own_formc hrow
          have hmE : ∀ s ∈ E, s.raw.length = m := fun s hs => by
            rw [hE] at hs
            rcases List.mem_append.1 hs with hs | hs
            · exact (HES.out s hs).1
            · simp at hs; rw [hs]; exact hpl
          have hh6 := hk6.hsc fun s hs => by rw [hmE s hs]; omega
          have hbel6 := hk6.bel
          obtain ⟨e, hee⟩ : ∃ e, E[j]? = some e := ⟨_, List.getElem?_eq_getElem (by omega)⟩
          obtain ⟨Aj, q, cj⟩ := e
          have hq : (rws E).getD j [] = q := by rw [List.getD_eq_getElem?_getD]; unfold rws; rw [List.getElem?_map, hee]; rfl
          have hql : q.length = m := hmE _ (List.mem_of_getElem? hee)
          have hbut := fun W (h : Rd W A6 (scs E)) (h2 : Hsc W E) => Q.xor_But.calls _ (fun _ => True) A6 c6 (rws E) (j : Int) _ W (Go.Proofs.Ytnahblhjjpjnbaa.My.V_of_C (Go.Proofs.Ytnahblhjjpjnbaa.My.heap_slice (Go.Proofs.Ytnahblhjjpjnbaa.My.heap_int .u8) 5) 25 W.heap.size (C_of_rows h h2 (by omega)) (by rw [rws_len, hlE]; exact hc6)) (but_tells (rws E) (hrE ▸ E2.out) (by rw [rws_len]; omega) (j : Int))
          rw [hrE, hq] at E5
          rw [hrE] at E2 E3 E4
          obtain ⟨e51, e52⟩ := E5.out
          rw [e51, rws_len, hlE] at hbut
          have hbut2 : ∀ W, Rd W A6 (scs E) → Hsc W E → Calls Try.prog 13 #[.slice A6 N c6, .int .i64 (j : Int)] W fun e w' => ∃ Ab cb, e = .returned (.slice Ab m cb) ∧ Rd w' Ab (byv q) ∧ Below W.heap.size W w' := fun W h h2 => (hbut W h h2).mono fun e w' ⟨v, he, hR, hb⟩ => by
            obtain ⟨Ab, cb, rfl, hle, hC⟩ := Kd.R_reads hR
            rw [hql] at he
            exact ⟨Ab, cb, he, bytes_of_C hC, hb⟩
          have heq : ∀ W Ab Ac cb cc, Rd W Ab (byv q) → Rd W Ac (byv q) → Calls Try.prog 15 #[.slice Ab m cb, .slice Ac m cc] W fun e w' => e = .returned (.bool true) ∧ Below W.heap.size W w' := fun W Ab Ac cb cc h h2 => by
            have h3 := equalb_ok Ab Ac cb cc q q W h h2 (by omega)
            rw [hql] at h3
            refine h3.mono ?_
            rintro e w' ⟨rfl, n, rfl⟩
            exact ⟨by rw [decide_eq_true rfl], below_drewN (Below.refl _ _) n⟩
          have hof6 := fun W (h : Rd W A6 (scs E)) (h2 : Hsc W E) => of_ok A6 c6 E W h h2 (by omega) E2.out (by omega)
          have hzx : Q.xorAt (rws E) = fun _ => 0 := funext E4.out
          rw [E3.out, hzx, hlE] at hof6
          obtain ⟨zl, hzl⟩ : ∃ zl, zl = Q.L m (fun _ => 0) := ⟨_, rfl⟩
          have hzll : zl.length = m := by rw [hzl, Q.L_length]
          have hzz : Pure.zeros zl = true := by
            rw [hzl]
            unfold Pure.zeros Q.L
            rw [List.all_eq_true]
            intro x hx
            obtain ⟨i, -, rfl⟩ := List.mem_map.1 hx
            rfl
          rw [← hzl] at hof6
          have hno : ∀ W Az cz, Rd W Az (byv zl) → m ≤ cz → Calls Try.prog 12 #[.slice Az m cz] W fun e w' => e = .returned (.bool true) ∧ Below W.heap.size W w' := fun W Az cz h h2 => by
            have h3 := Q.xor_None.calls (zl.length + 1) Az cz zl true W (C_of_bytes h (by omega)) (by omega) (by rw [Pure.none_tells zl (by omega) _ (Nat.le_refl _), hzz])
            rw [hzll] at h3
            refine h3.mono ?_
            rintro e w' ⟨rfl, hd⟩
            exact ⟨rfl, hd.below⟩
          obtain ⟨a6, rfl, q6⟩ := hr6 j (scv ⟨Aj, q, cj⟩) (by unfold scs; rw [List.getElem?_map, hee]; rfl)
          unfold scv at q6
          rw [hql] at q6
          have hbj := bytes_of_C (hh6 _ (List.mem_of_getElem? hee)).2
          have HBUT := Lib.hid hbut2
          have HEQ := Lib.hid heq
          have HOF6 := Lib.hid hof6
          have HNO := Lib.hid hno
          have HR6 := Lib.hid hr6
          have HH6 := Lib.hid hh6
          have HB6 := Lib.hid hbel6
          have HBJ := Lib.hid hbj
          have g0 : (0 : Int) ≤ j := by omega
          have g1 : (j : Int) < N := by omega
          clear e51 e52 hbut hbut2 heq hof6 hno hzx hzl hzll hzz hr6 hh6 hbel6 hbj hq hql hE hrE hlE hmE hk6 hrow hc6 hee
          go_upto_region 15 with fail
          rw [HMOD.out]
          have q6d : w6.drew.cell? (a6.add j) = some (.slice Aj m cj) := q6
          have HR6d : Hid (Rd w6.drew (some a6) (scs E)) := Lib.hid (HR6.out.later (below_drewN (Below.refl _ _) 1))
          have HH6d : Hid (Hsc w6.drew E) := Lib.hid (HH6.out.later (below_drewN (Below.refl _ _) 1))
          have HBJd : Hid (Rd w6.drew Aj (byv q)) := Lib.hid (HBJ.out.later (below_drewN (Below.refl _ _) 1))
          have HB6d : Hid (Below w.heap.size w w6.drew) := Lib.hid (below_drewN HB6.out 1)
          clear HR6 HH6 HBJ HB6 HA HA5 HA6 HOF HOP q6
          go_region_held3 (fun w' => w'.cell? (a6.add j) = some (.slice Aj m cj))
            (first | go_keep | assumption)
            (first
              | (go_at_call 13; (with_reducible refine (HBUT.out _ HR6d.out HH6d.out).mono ?_); rintro e w7 ⟨Ab, cb, rfl, hrb, hb7⟩; have q7 := (hb7.cell (World.block_lt_of_cell? _ _ q6d)).trans q6d; have HB7 := Lib.hid (HB6d.out.trans (hb7.mono HB6d.out.size)); have HRB7 := Lib.hid hrb; have HBJ7 := Lib.hid (HBJd.out.later hb7); have HR7 := Lib.hid (HR6d.out.later hb7); have HH7 := Lib.hid (HH6d.out.later hb7); clear hb7 hrb)
              | (go_at_call 15; (with_reducible refine (HEQ.out _ Ab Aj cb cj HRB7.out HBJ7.out).mono ?_); rintro e w8 ⟨rfl, hb8⟩; have q8 := (hb8.cell (World.block_lt_of_cell? _ _ q7)).trans q7; have HB8 := Lib.hid (HB7.out.trans (hb8.mono HB7.out.size)); have HR8 := Lib.hid (HR7.out.later hb8); have HH8 := Lib.hid (HH7.out.later hb8); clear hb8)
              | (go_at_call 10; (with_reducible refine (HOF6.out _ HR8.out HH8.out).mono ?_); rintro e w9 ⟨Az, cz, rfl, hcz, hrz, -, hb9⟩; have q9 := (hb9.cell (World.block_lt_of_cell? _ _ q8)).trans q8; have HB9 := Lib.hid (HB8.out.trans (hb9.mono HB8.out.size)); have HRZ := Lib.hid hrz; clear hb9 hrz)
              | (go_at_call 12; (with_reducible refine (HNO.out _ Az cz HRZ.out hcz).mono ?_); rintro e wa ⟨rfl, hba⟩; have qa := (hba.cell (World.block_lt_of_cell? _ _ q9)).trans q9; have HBa := Lib.hid (HB9.out.trans (hba.mono HB9.out.size)); clear hba)
              | fail "no arm")
          go_wp2_with fail
          go_ret
          exact ⟨rfl, HBa.out⟩
end Go.Proofs.Ytnahblhjjpjnbaa
