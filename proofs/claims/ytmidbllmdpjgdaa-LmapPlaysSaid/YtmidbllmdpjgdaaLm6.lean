/- The walk of LmapPlays. No further condition. -/
import Derived.Test.YtmidbllmdpjgdaaLm5
import Derived.Test.YtmidbllmdpjgdaaRep
import Derived.Test.YtmidbllmdpjgdaaMapz
namespace Go.Proofs.Ytmidbllmdpjgdaa
open Go.RowKit
attribute [local go_sem] go_max2 go_min2 go_max_two go_min_two

theorem MTii : MT Try.prog 42 3 3 .i64 := ⟨by kernel_rfl, by kernel_rfl, by kernel_rfl, fun _ => by kernel_rfl⟩
/-- The cells of what is had. -/
def hv (n : Nat) (f : Nat → Int) : Array Value := ((allv n f).map (.int .i64)).toArray
theorem hv_set {n i : Nat} (f : Nat → Int) (v : Int) (h : i < n) : (hv n f).setIfInBounds i (.int .i64 v) = hv n (upv f i (v + 1)) := by
  apply Array.ext_getElem?
  intro q
  unfold hv
  rw [Array.getElem?_setIfInBounds]
  simp only [List.size_toArray, List.length_map, allv_len, List.getElem?_toArray, List.getElem?_map]
  by_cases hq : i = q
  · subst hq
    rw [if_pos rfl, if_pos h, allv_get _ h]
    simp [upv]
  · rw [if_neg hq]
    rcases Nat.lt_or_ge q n with h1 | h1
    · rw [allv_get _ h1, allv_get _ h1]
      have : upv f i (v + 1) q = f q := by unfold upv; rw [if_neg (Ne.symm hq)]
      rw [this]
    · rw [List.getElem?_eq_none (by rw [allv_len]; exact h1), List.getElem?_eq_none (by rw [allv_len]; exact h1)]
theorem hv_new (n : Nat) : (half n n (-1)).toArray = hv n (fun _ => 0) := by
  unfold half hv allv
  simp only [Nat.sub_self, List.replicate_zero, List.append_nil, List.map_map]
  congr 1
  symm
  rw [List.eq_replicate_iff]
  refine ⟨by simp, fun x hx => ?_⟩
  obtain ⟨_, _, rfl⟩ := List.mem_map.1 hx
  rfl
set_option maxHeartbeats 800000 in
theorem lat_ok (b n : Nat) (f : Nat → Int) (x : Int) (w : World) (k : Blk w b 3 (hv n f)) (_hn : n ≤ 1000) :
    Calls Try.prog 17 #[.slice (some ⟨b, 0, none⟩) n n, .int .i64 x] w fun e w' => e = .returned (.int .i64 (gv n f x)) ∧ w' = w := by
  rcases Int.lt_or_le x 0 with hx | hx
  · rw [gv_out (.inl hx)]
    go_enter Try.func17, Try.ntmps17
    go_wp2
    go_ret
    exact ⟨rfl, rfl⟩
  rcases Int.lt_or_le x n with hn' | hn'
  · obtain ⟨i, rfl⟩ := Int.eq_ofNat_of_zero_le hx
    have hi : i < n := by omega
    have c0 : w.cell? ⟨b, i, none⟩ = some (.int .i64 (f i - 1)) := k.at_ (by simp [hv, allv_get f hi])
    rw [gv_in hi]
    clear k
    go_enter Try.func17, Try.ntmps17
    go_wp2
    go_ret
    exact ⟨rfl, rfl⟩
  · rw [gv_out (.inr hn')]
    go_enter Try.func17, Try.ntmps17
    go_wp2
    go_ret
    exact ⟨rfl, rfl⟩
/-- The map of the pages that were made, as a function. -/
def pm (pg : Nat → Option Nat) : Int → Option Int := fun q => if 0 ≤ q ∧ (pg q.toNat).isSome then some 1 else none
theorem pm_same {n : Nat} {pg pg' : Nat → Option Nat} {x pl : Int} (h : Pgs n pg pg' x pl) (hx : ¬ (0 ≤ x ∧ x < n ∧ 0 ≤ pl)) : pm pg' = pm pg := by
  funext q
  unfold pm
  rw [h q.toNat, show decide (0 ≤ x ∧ x < n ∧ 0 ≤ pl ∧ q.toNat = x.toNat / 16) = false from decide_eq_false (by intro g; apply hx; exact ⟨g.1, g.2.1, g.2.2.1⟩)]
  simp
theorem pm_more {n i : Nat} {pg pg' : Nat → Option Nat} {pl : Int} (h : Pgs n pg pg' i pl) (hi : i < n) (hp : 0 ≤ pl) : pm pg' = upd (pm pg) ((i / 16 : Nat) : Int) 1 := by
  funext q
  unfold pm upd
  rw [h q.toNat]
  by_cases hq : q = ((i / 16 : Nat) : Int)
  · subst hq
    simp [hi, hp]
    omega
  · rw [if_neg hq]
    by_cases h0 : 0 ≤ q
    · rw [show decide (0 ≤ (i : Int) ∧ (i : Int) < n ∧ 0 ≤ pl ∧ q.toNat = (i : Int).toNat / 16) = false from decide_eq_false (by rw [Int.toNat_natCast]; omega)]
      simp
    · simp [h0]
theorem pgs_same {pg pg' : Nat → Option Nat} (h : ∀ p, (pg' p).isSome = (pg p).isSome) : ∀ np, pgs pg' np = pgs pg np := by
  intro np
  induction np with
  | zero => rfl
  | succ k ih => unfold pgs; rw [ih, h]
theorem pgs_more {pg pg' : Nat → Option Nat} {p : Nat} (h : ∀ q, (pg' q).isSome = ((pg q).isSome || decide (q = p))) : ∀ np, pgs pg' np = pgs pg np + (if p < np ∧ (pg p).isSome = false then 1 else 0) := by
  intro np
  induction np with
  | zero => simp [pgs]
  | succ k ih =>
    unfold pgs
    rw [ih, h]
    by_cases hk : k = p
    · subst hk
      cases hp : (pg k).isSome <;> simp
    · simp only [show decide (k = p) = false from decide_eq_false hk, Bool.or_false]
      by_cases h1 : p < k
      · have h2 : p < k + 1 := by omega
        simp only [h1, h2, true_and]
        omega
      · have h2 : ¬ p < k + 1 := by omega
        simp only [h1, h2, false_and, if_false]
        omega
theorem pm_some (pg : Nat → Option Nat) (p : Nat) : (pm pg (p : Int)).isSome = (pg p).isSome := by
  unfold pm
  cases h : (pg p).isSome <;> simp [h]
/-- The rows of what is had, but for what a page's block is. -/
structure St (w w0 : World) (B g rb n np tb mb k : Nat) (pg : Nat → Option Nat) (f : Nat → Int) : Prop where
  lm : Lm w B g rb n np pg f
  had : Blk w tb 3 (hv n f)
  made : IZ Try.prog 3 3 .i64 w mb k (pm pg) (pgs pg np)
  below : Below w0.heap.size w0 w
theorem St.tb {w w0 : World} {B g rb n np tb mb k : Nat} {pg : Nat → Option Nat} {f : Nat → Int} (s : St w w0 B g rb n np tb mb k pg f) : ¬ LmS g rb pg tb := by
  rintro (h | h | ⟨p, h⟩)
  · exact s.had.ne_ s.lm.own (by decide) h
  · exact s.had.ne_ s.lm.row (by decide) h
  · exact s.had.ne_ (s.lm.page p tb h) (by decide) rfl
theorem St.mb {w w0 : World} {B g rb n np tb mb k : Nat} {pg : Nat → Option Nat} {f : Nat → Int} (s : St w w0 B g rb n np tb mb k pg f) : tb ≠ mb := s.made.im.not_cells s.had
theorem LmS_cells {w : World} {B g h n np : Nat} {pg : Nat → Option Nat} {f : Nat → Int} (k : Lm w B g h n np pg f) {b : Nat} (hs : LmS g h pg b) : ∃ t cs, Blk w b t cs := by
  rcases hs with rfl | rfl | ⟨p, e⟩
  · exact ⟨_, _, k.own⟩
  · exact ⟨_, _, k.row⟩
  · exact ⟨_, _, k.page p b e⟩
/-- Between what is had and what is set. -/
structure Mid (W w0 : World) (B g rb n np tb mb m : Nat) (pg : Nat → Option Nat) (f f' : Nat → Int) (x pl : Int) : Prop where
  lm : Lm W B g rb n np pg f
  had : Blk W tb 3 (hv n f')
  eq : f' = put n f x pl
  made : ∃ F M, IZ Try.prog 3 3 .i64 W mb m F M ∧ ∀ pg', Pgs n pg pg' x pl → F = pm pg' ∧ M = pgs pg' np
  below : Below w0.heap.size w0 W
  p0 : -70000 ≤ pl
  p1 : pl < 70000
section
variable {wr w0 W : World} {B g rb n np tb mb m : Nat} {pg : Nat → Option Nat} {f f' : Nat → Int} {x pl : Int}
theorem St.lm_tb (s : St wr w0 B g rb n np tb mb m pg f) (hf : Fr (fun b => b = tb) wr W) : Lm W B g rb n np pg f := s.lm.fr hf fun _ hb e => s.tb (e ▸ hb)
theorem St.mid (s : St wr w0 B g rb n np tb mb m pg f) (hf : Fr (fun b => b = tb) wr W) (hb : Blk W tb 3 (hv n f')) (he : f' = put n f x pl) (hno : ¬ (0 ≤ x ∧ x < n ∧ 0 ≤ pl)) (p0 : -70000 ≤ pl) (p1 : pl < 70000) (hlt : w0.heap.size ≤ tb) :
    Mid W w0 B g rb n np tb mb m pg f f' x pl where
  lm := s.lm_tb hf
  had := hb
  eq := he
  made := ⟨_, _, s.made.fr hf (fun e => s.mb e.symm), fun pg' h => ⟨(pm_same h hno).symm, (pgs_same (fun p => by
    rw [h p, show decide (0 ≤ x ∧ x < n ∧ 0 ≤ pl ∧ p = x.toNat / 16) = false from decide_eq_false (by intro q; apply hno; exact ⟨q.1, q.2.1, q.2.2.1⟩)]
    simp) np).symm⟩⟩
  below := s.below.trans (hf.toBelow s.below.size fun b hb e => by omega)
  p0 := p0
  p1 := p1
theorem St.mid2 {i : Nat} {W4 : World} (s : St wr w0 B g rb n np tb mb m pg f) (hf : Fr (fun b => b = tb) wr W4) (hb : Blk W4 tb 3 (hv n f')) (he : f' = put n f i pl) (hin : i < n) (hp : 0 ≤ pl) (p1 : pl < 70000) (hlt : w0.heap.size ≤ tb) (hltm : w0.heap.size ≤ mb)
    (hz : IZ Try.prog 3 3 .i64 W mb (m + 1) (upd (pm pg) ((i / 16 : Nat) : Int) 1) (if (pm pg ((i / 16 : Nat) : Int)).isSome then pgs pg np else pgs pg np + 1)) (hg : W4.grownBy W (some mb)) : Mid W w0 B g rb n np tb mb (m + 1) pg f f' i pl where
  lm := (s.lm_tb hf).fr (Fr.of_grown hg) fun b hb e => by
    obtain ⟨t, cs, hc⟩ := LmS_cells (s.lm_tb hf) hb
    injection e with e
    subst e
    exact (s.made.fr hf (fun e => s.mb e.symm)).im.not_cells hc rfl
  had := hb.grown hg fun e => s.mb (Option.some.inj e)
  eq := he
  made := ⟨_, _, hz, fun pg' h => ⟨(pm_more h hin hp).symm, by
    have hnp := s.lm.np1
    rw [pgs_more (pg := pg) (pg' := pg') (p := i / 16) (fun q => by
      rw [h q]
      have : decide (0 ≤ (i : Int) ∧ (i : Int) < n ∧ 0 ≤ pl ∧ q = (i : Int).toNat / 16) = decide (q = i / 16) := by
        rw [Int.toNat_natCast]
        apply decide_eq_decide.2
        constructor
        · exact fun h => h.2.2.2
        · exact fun h => ⟨by omega, by omega, hp, h⟩
      rw [this]) np, pm_some]
    have hpl : i / 16 < np := by omega
    cases (pg (i / 16)).isSome <;> simp [hpl]⟩⟩
  below := (s.below.trans (hf.toBelow s.below.size fun b hb e => by omega)).grown hg (Nat.le_trans s.below.size hf.size) fun b hb => by injection hb with hb; omega
  p0 := by omega
  p1 := p1
theorem mid_set (k : Mid W w0 B g rb n np tb mb m pg f f' x pl) (hB : w0.heap.size ≤ B) :
    Calls Try.prog 9 #[.pointer (some ⟨g, 0, none⟩), .int .i64 x, .int .i64 pl] W fun e w' => e = .returned (.int .i64 (gv n f x)) ∧ ∃ pg', St w' w0 B g rb n np tb mb m pg' f' := by
  refine (set_ok B g rb n np pg f x pl W k.lm k.p0 k.p1).mono ?_
  rintro e w' ⟨rfl, pg', h1, h2, h3⟩
  obtain ⟨F, M, hz, hFM⟩ := k.made
  obtain ⟨rfl, rfl⟩ := hFM pg' h2
  refine ⟨rfl, pg', ?_, ?_, ?_, ?_⟩
  · rw [k.eq]; exact h1
  · refine k.had.fr h3 fun hs => ?_
    rcases hs with h | h | ⟨p, h⟩
    · exact k.had.ne_ k.lm.own (by decide) h
    · exact k.had.ne_ k.lm.row (by decide) h
    · exact k.had.ne_ (k.lm.page p tb h) (by decide) rfl
  · refine hz.fr h3 fun hs => ?_
    obtain ⟨t, cs, hc⟩ := LmS_cells k.lm hs
    exact hz.im.not_cells hc rfl
  · exact k.below.trans ((k.lm.below h3).mono hB)
end
set_option maxRecDepth 100000 in
set_option maxHeartbeats 6400000 in
theorem plays_walk (z : Int) (A : Option Addr) (c : Nat) (l : List Ac) (w : World) (ra : ArgA w A l) (z0 : 0 ≤ z) (z1 : z < 256) :
    Calls Try.prog 6 #[.int .u8 z, .slice A l.length c] w fun e w' => e = .returned (.bool true) ∧ Below w.heap.size w w' := by
  have ha := awake_ok w
  by_cases hlong : 80 < l.length
  · go_enter Try.func6, Try.ntmps6
    go_wp2_with (go_at_call 7; refine ha.mono ?_; rintro e w1 ⟨rfl, hb1⟩)
    go_ret
    exact ⟨rfl, hb1⟩
  have hfew : l.length ≤ 80 := by omega
  obtain ⟨n, hn⟩ : ∃ n : Nat, z % 70 = n := Int.eq_ofNat_of_zero_le (by omega)
  have hn70 : n < 70 := by omega
  have HAW := Lib.hid ha
  have HRA := Lib.hid ra
  have hmm := @run_makeMap_ Try.prog
  clear hlong ha ra
  go_enter Try.func6, Try.ntmps6
  go_wp2_with (first
    | (go_at_call 7; refine HAW.out.mono ?_; rintro e w1 ⟨rfl, hb1⟩; have HB1 := Lib.hid hb1; have HR1 := Lib.hid (HRA.out.later hb1); clear hb1)
    | (go_at_call 8; refine (lnew_ok n _ (by omega)).mono ?_; rintro e w2 ⟨np, rfl, hk, hb⟩; have HB2 := Lib.hid (HB1.out.trans (hb.mono HB1.out.size)); have HR2 := Lib.hid (HR1.out.later hb); have HK2 := Lib.hid (hk.later ((Below.refl _ _).alloc (Nat.le_refl _) (.cells #[.int .i64 (-1)] 3))); have hB := HB1.out.size; have HB2' := Lib.hid (HB2.out.alloc HB2.out.size (.cells #[.int .i64 (-1)] 3)); clear hk hb)
    | (go_at_call 15; refine (repeat_ok (some ⟨w2.heap.size, 0, none⟩) 1 n (-1) (w2.alloc (.cells #[.int .i64 (-1)] 3)) (Rd.one w2 3 (.int .i64 (-1)) rfl) (by omega)).mono ?_; rintro e w3 ⟨tb, rfl, htb, hbk, hb⟩; rw [hv_new] at hbk; have HB3 := Lib.hid ((HB2'.out.trans (hb.mono HB2'.out.size)).alloc (Nat.le_trans HB2'.out.size hb.size) (.map #[] 0)); have HK3 := Lib.hid ((HK2.out.later hb).later ((Below.refl _ _).alloc (Nat.le_refl _) (.map #[] 0))); have HT3 := Lib.hid (hbk.alloc (.map #[] 0)); have HTB : Hid (w.heap.size ≤ tb) := Lib.hid (by have := HB2.out.size; simp at htb; omega); have HM3 : Hid (w.heap.size ≤ w3.heap.size) := Lib.hid (by have := HB2'.out.size; have := hb.size; omega); clear hbk hb htb))
  clear hn
  have hpm : pm (fun _ => none) = fun _ => none := by funext q; simp [pm]
  have hp0 : pgs (fun _ => none) np = 0 := by
    have : ∀ m, pgs (fun _ => none) m = 0 := by
      intro m
      induction m with
      | zero => rfl
      | succ m ih => unfold pgs; rw [ih]; rfl
    exact this np
  have HS0 : Hid (St (w3.alloc (.map #[] 0)) w w1.heap.size (w1.heap.size + 1) w1.heap.size n np tb w3.heap.size 0 (fun _ => none) (fun _ => 0)) := Lib.hid ⟨HK3.out, HT3.out, by rw [hpm, hp0]; exact IZ.made Try.prog 3 3 .i64 w3 rfl, HB3.out⟩
  clear hpm hp0
  go_loopw [10, 11, 12, 13, 15, 32] (fun _ _ _ _ _ i wr => ∃ (k m : Nat) (pg : Nat → Option Nat) (f : Nat → Int), k ≤ l.length ∧ m ≤ k ∧ i = .int .i64 k ∧ St wr w w1.heap.size (w1.heap.size + 1) w1.heap.size n np tb w3.heap.size m pg f) (fun _ _ _ _ _ i _ => l.length - (intOf i).toNat)
  case atStart => exact ⟨0, 0, _, _, by omega, by omega, rfl, HS0.out⟩
  case round =>
    obtain ⟨k, m, pg, f, hk, hmk, rfl, hst⟩ := hrel
    have HST := Lib.hid hst
    have hbs := hst.below.size
    clear hst
    have HMB : Hid (w.heap.size ≤ w3.heap.size) := Lib.hid HM3.out
    by_cases hlt : k < l.length
    · obtain ⟨s, hs⟩ : ∃ s, l[k]? = some s := ⟨_, List.getElem?_eq_getElem hlt⟩
      obtain ⟨xa, rfl, c0, c1, q0, q1⟩ := HRA.out.later HST.out.below k s hs
      have g1 : (k : Int) < l.length := by omega
      clear hs
      have hmk1 : m ≤ 80 := by omega
      have hfw := HST.out.lm.few
      have htb := HST.out.had.lt
      have ht0 : w.heap.size ≤ tb := HTB.out
      have hm0 : w.heap.size ≤ w3.heap.size := HMB.out
      obtain ⟨x, hx⟩ : ∃ x, x = s.lba := ⟨_, rfl⟩
      obtain ⟨pl, hpl⟩ : ∃ pl, pl = s.place := ⟨_, rfl⟩
      rw [← hx] at c0 q0
      rw [← hpl] at c1 q1
      clear hx hpl
      have hfr := HST.out.had.frozen
      obtain ⟨f', hf'⟩ : ∃ f', f' = put n f x pl := ⟨_, rfl⟩
      have HFP := Lib.hid hf'
      clear hf'
      by_cases hin : 0 ≤ x ∧ x < n
      · obtain ⟨hx0, hxn⟩ := hin
        obtain ⟨i, rfl⟩ := Int.eq_ofNat_of_zero_le hx0
        have hi : i < n := by omega
        have d0 : wr.cell? ⟨tb, i, none⟩ = some (.int .i64 (f i - 1)) := HST.out.had.at_ (by simp [hv, allv_get f hi])
        have hfi := HST.out.had.frozen i
        have HGV : Hid (gv n f i = f i - 1) := Lib.hid (gv_in hi)
        have g2 : (i : Int) < n := by omega
        have HFV : Hid (upv f i (mxI pl (-1) + 1) = f') := Lib.hid (by rw [HFP.out, put_in f pl hi])
        have HFRW : Hid (Fr (fun b => b = tb) wr ((wr.setCell ⟨tb, i, none⟩ (.int .i64 (mxI pl (-1)))).alloc (.cells #[.int .i8 (i : Int), .int .i16 pl] 29))) := Lib.hid (((Fr.refl (fun b => b = tb) wr).setCell (p := ⟨tb, i, none⟩) (.inl rfl) _).alloc _)
        have HHAD : Hid (Blk ((wr.setCell ⟨tb, i, none⟩ (.int .i64 (mxI pl (-1)))).alloc (.cells #[.int .i8 (i : Int), .int .i16 pl] 29)) tb 3 (hv n f')) := Lib.hid (by
          rw [← HFV.out, ← hv_set f (mxI pl (-1)) hi]
          exact (HST.out.had.set_ i _).alloc _)
        rcases Int.lt_or_le pl 0 with hpl | hpl
        · have HMID := Lib.hid (HST.out.mid (W := (wr.setCell ⟨tb, i, none⟩ (.int .i64 (mxI pl (-1)))).alloc (.cells #[.int .i8 (i : Int), .int .i16 pl] 29)) (f' := f') (x := (i : Int)) (pl := pl) HFRW.out HHAD.out HFP.out (by omega) (by omega) (by omega) ht0)
          go_wp2_with (first
            | (go_at_call 9; have hs := mid_set HMID.out hB; rw [HGV.out] at hs; refine hs.mono ?_; clear hs; rintro e w5 ⟨rfl, pg5, hst5⟩; have HST5 := Lib.hid hst5; have hlen := hst5.made.len MTii; clear hst5)
            | (go_at_call 16; refine (pages_ok _ _ _ _ _ _ _ _ HST5.out.lm).mono ?_; rintro e w' ⟨rfl, rfl⟩)
            | (go_at_call 10; refine (get_ok _ _ _ _ _ _ _ _ _ HST5.out.lm).mono ?_; rintro e w' ⟨rfl, rfl⟩)
            | (go_at_call 17; refine (lat_ok _ _ _ _ _ HST5.out.had (by omega)).mono ?_; rintro e w' ⟨rfl, rfl⟩)
            | (go_at_call 18; refine (len_ok _ _ _ _ _ _ _ _ HST5.out.lm).mono ?_; rintro e w' ⟨rfl, rfl⟩))
          have hcn := cnt_le f' n
          go_loopw [13, 15, 95] (fun v _ i wi => ∃ j : Nat, j ≤ n ∧ i = .int .i64 j ∧ v = .int .i64 (cnt f' j : Int) ∧ St wi w w1.heap.size (w1.heap.size + 1) w1.heap.size n np tb w3.heap.size (m) pg5 f') (fun _ _ i _ => n - (intOf i).toNat)
          case atStart => exact ⟨0, by omega, rfl, rfl, HST5.out⟩
          case round =>
            obtain ⟨j, hj, rfl, rfl, hst⟩ := hrel
            have HSTi := Lib.hid hst
            clear hst
            by_cases hjl : j < n
            · have e0 : wr.cell? ⟨tb, j, none⟩ = some (.int .i64 (f' j - 1)) := HSTi.out.had.at_ (by simp [hv, allv_get f' hjl])
              have g5 : (j : Int) < n := by omega
              have hcj := cnt_le f' j
              have HC : Hid (cnt f' (j + 1) = cnt f' j + (if 0 < f' j then 1 else 0)) := Lib.hid rfl
              rcases Int.lt_or_le (f' j - 1) 0 with hneg | hpos
              · rw [if_neg (by omega)] at HC
                go_wp2
                go_roundw
                case rel => exact ⟨j + 1, by omega, by go_num, by rw [HC.out]; rfl, HSTi.out⟩
                case measure => simp [intOf]; omega
              · rw [if_pos (by omega)] at HC
                go_wp2
                go_roundw
                case rel => exact ⟨j + 1, by omega, by go_num, by rw [HC.out]; go_num, HSTi.out⟩
                case measure => simp [intOf]; omega
            · obtain rfl : j = n := by omega
              go_wp2_with (go_at_call 14; refine (many_ok _ _ _ _ _ _ _ _ HSTi.out.lm).mono ?_; rintro e w' ⟨rfl, rfl⟩)
              go_roundw
              case rel => exact ⟨k + 1, m, pg5, f', by omega, by omega, by go_num, HSTi.out⟩
              case measure => simp [intOf]; omega
        · have HDV : Hid ((i : Int) / 16 = ((i / 16 : Nat) : Int)) := Lib.hid (by omega)
          have HBO : Hid (Blk ((wr.setCell ⟨tb, i, none⟩ (.int .i64 (mxI pl (-1)))).alloc (.cells #[.int .i8 (i : Int), .int .i16 pl] 29)) wr.heap.size 29 #[.int .i8 (i : Int), .int .i16 pl]) := Lib.hid (Blk.new_ _ _ _ (by simp [World.setCell]))
          go_wp2_with (first
            | (at_mapUpdate; (refine wpList_storez rfl _ _ _ rfl MTii rfl (HST.out.made.fr HFRW.out (fun e => HST.out.mb e.symm)) (by unfold maxLen; omega) (i := (i : Int) / 16) (v := 1) rfl rfl (i64_wf (by omega) (by omega)) (by decide) ?_; intro w4 hz hg; rw [HDV.out] at hz; have HMID := Lib.hid (HST.out.mid2 HFRW.out HHAD.out HFP.out hi hpl (by omega) ht0 hm0 hz hg); have b1 := HBO.out.grown hg (fun e => by have h8 := HST.out.made.lt; injection e with e; omega); have c0' := b1.at_ (i := 0) (u := .int .i8 (i : Int)) rfl; have c1' := b1.at_ (i := 1) (u := .int .i16 pl) rfl; clear hz hg b1))
            | (go_at_call 9; have hs := mid_set HMID.out hB; rw [HGV.out] at hs; refine hs.mono ?_; clear hs; rintro e w5 ⟨rfl, pg5, hst5⟩; have HST5 := Lib.hid hst5; have hlen := hst5.made.len MTii; clear hst5)
            | (go_at_call 16; refine (pages_ok _ _ _ _ _ _ _ _ HST5.out.lm).mono ?_; rintro e w' ⟨rfl, rfl⟩)
            | (go_at_call 10; refine (get_ok _ _ _ _ _ _ _ _ _ HST5.out.lm).mono ?_; rintro e w' ⟨rfl, rfl⟩)
            | (go_at_call 17; refine (lat_ok _ _ _ _ _ HST5.out.had (by omega)).mono ?_; rintro e w' ⟨rfl, rfl⟩)
            | (go_at_call 18; refine (len_ok _ _ _ _ _ _ _ _ HST5.out.lm).mono ?_; rintro e w' ⟨rfl, rfl⟩))
          have hcn := cnt_le f' n
          go_loopw [13, 15, 95] (fun v _ i wi => ∃ j : Nat, j ≤ n ∧ i = .int .i64 j ∧ v = .int .i64 (cnt f' j : Int) ∧ St wi w w1.heap.size (w1.heap.size + 1) w1.heap.size n np tb w3.heap.size (m + 1) pg5 f') (fun _ _ i _ => n - (intOf i).toNat)
          case atStart => exact ⟨0, by omega, rfl, rfl, HST5.out⟩
          case round =>
            obtain ⟨j, hj, rfl, rfl, hst⟩ := hrel
            have HSTi := Lib.hid hst
            clear hst
            by_cases hjl : j < n
            · have e0 : wr.cell? ⟨tb, j, none⟩ = some (.int .i64 (f' j - 1)) := HSTi.out.had.at_ (by simp [hv, allv_get f' hjl])
              have g5 : (j : Int) < n := by omega
              have hcj := cnt_le f' j
              have HC : Hid (cnt f' (j + 1) = cnt f' j + (if 0 < f' j then 1 else 0)) := Lib.hid rfl
              rcases Int.lt_or_le (f' j - 1) 0 with hneg | hpos
              · rw [if_neg (by omega)] at HC
                go_wp2
                go_roundw
                case rel => exact ⟨j + 1, by omega, by go_num, by rw [HC.out]; rfl, HSTi.out⟩
                case measure => simp [intOf]; omega
              · rw [if_pos (by omega)] at HC
                go_wp2
                go_roundw
                case rel => exact ⟨j + 1, by omega, by go_num, by rw [HC.out]; go_num, HSTi.out⟩
                case measure => simp [intOf]; omega
            · obtain rfl : j = n := by omega
              go_wp2_with (go_at_call 14; refine (many_ok _ _ _ _ _ _ _ _ HSTi.out.lm).mono ?_; rintro e w' ⟨rfl, rfl⟩)
              go_roundw
              case rel => exact ⟨k + 1, m + 1, pg5, f', by omega, by omega, by go_num, HSTi.out⟩
              case measure => simp [intOf]; omega
      · have HGV : Hid (gv n f x = -1) := Lib.hid (gv_out (by omega))
        have HMID := Lib.hid (HST.out.mid (W := wr.alloc (.cells #[.int .i8 x, .int .i16 pl] 29)) (f' := f') (x := x) (pl := pl) ((Fr.refl _ _).alloc _) (by
          have : f' = f := by rw [HFP.out]; unfold put; funext i; rw [if_neg (by omega)]
          rw [this]
          exact HST.out.had.alloc _) HFP.out (by omega) (by omega) (by omega) ht0)
        rcases Int.lt_or_le x 0 with hx | hx
        · go_wp2_with (first
            | (go_at_call 9; have hs := mid_set HMID.out hB; rw [HGV.out] at hs; refine hs.mono ?_; clear hs; rintro e w5 ⟨rfl, pg5, hst5⟩; have HST5 := Lib.hid hst5; have hlen := hst5.made.len MTii; clear hst5)
            | (go_at_call 16; refine (pages_ok _ _ _ _ _ _ _ _ HST5.out.lm).mono ?_; rintro e w' ⟨rfl, rfl⟩)
            | (go_at_call 10; refine (get_ok _ _ _ _ _ _ _ _ _ HST5.out.lm).mono ?_; rintro e w' ⟨rfl, rfl⟩)
            | (go_at_call 17; refine (lat_ok _ _ _ _ _ HST5.out.had (by omega)).mono ?_; rintro e w' ⟨rfl, rfl⟩)
            | (go_at_call 18; refine (len_ok _ _ _ _ _ _ _ _ HST5.out.lm).mono ?_; rintro e w' ⟨rfl, rfl⟩))
          have hcn := cnt_le f' n
          go_loopw [13, 15, 95] (fun v _ i wi => ∃ j : Nat, j ≤ n ∧ i = .int .i64 j ∧ v = .int .i64 (cnt f' j : Int) ∧ St wi w w1.heap.size (w1.heap.size + 1) w1.heap.size n np tb w3.heap.size (m) pg5 f') (fun _ _ i _ => n - (intOf i).toNat)
          case atStart => exact ⟨0, by omega, rfl, rfl, HST5.out⟩
          case round =>
            obtain ⟨j, hj, rfl, rfl, hst⟩ := hrel
            have HSTi := Lib.hid hst
            clear hst
            by_cases hjl : j < n
            · have e0 : wr.cell? ⟨tb, j, none⟩ = some (.int .i64 (f' j - 1)) := HSTi.out.had.at_ (by simp [hv, allv_get f' hjl])
              have g5 : (j : Int) < n := by omega
              have hcj := cnt_le f' j
              have HC : Hid (cnt f' (j + 1) = cnt f' j + (if 0 < f' j then 1 else 0)) := Lib.hid rfl
              rcases Int.lt_or_le (f' j - 1) 0 with hneg | hpos
              · rw [if_neg (by omega)] at HC
                go_wp2
                go_roundw
                case rel => exact ⟨j + 1, by omega, by go_num, by rw [HC.out]; rfl, HSTi.out⟩
                case measure => simp [intOf]; omega
              · rw [if_pos (by omega)] at HC
                go_wp2
                go_roundw
                case rel => exact ⟨j + 1, by omega, by go_num, by rw [HC.out]; go_num, HSTi.out⟩
                case measure => simp [intOf]; omega
            · obtain rfl : j = n := by omega
              go_wp2_with (go_at_call 14; refine (many_ok _ _ _ _ _ _ _ _ HSTi.out.lm).mono ?_; rintro e w' ⟨rfl, rfl⟩)
              go_roundw
              case rel => exact ⟨k + 1, m, pg5, f', by omega, by omega, by go_num, HSTi.out⟩
              case measure => simp [intOf]; omega
        · have hxn : (n : Int) ≤ x := by omega
          go_wp2_with (first
            | (go_at_call 9; have hs := mid_set HMID.out hB; rw [HGV.out] at hs; refine hs.mono ?_; clear hs; rintro e w5 ⟨rfl, pg5, hst5⟩; have HST5 := Lib.hid hst5; have hlen := hst5.made.len MTii; clear hst5)
            | (go_at_call 16; refine (pages_ok _ _ _ _ _ _ _ _ HST5.out.lm).mono ?_; rintro e w' ⟨rfl, rfl⟩)
            | (go_at_call 10; refine (get_ok _ _ _ _ _ _ _ _ _ HST5.out.lm).mono ?_; rintro e w' ⟨rfl, rfl⟩)
            | (go_at_call 17; refine (lat_ok _ _ _ _ _ HST5.out.had (by omega)).mono ?_; rintro e w' ⟨rfl, rfl⟩)
            | (go_at_call 18; refine (len_ok _ _ _ _ _ _ _ _ HST5.out.lm).mono ?_; rintro e w' ⟨rfl, rfl⟩))
          have hcn := cnt_le f' n
          go_loopw [13, 15, 95] (fun v _ i wi => ∃ j : Nat, j ≤ n ∧ i = .int .i64 j ∧ v = .int .i64 (cnt f' j : Int) ∧ St wi w w1.heap.size (w1.heap.size + 1) w1.heap.size n np tb w3.heap.size (m) pg5 f') (fun _ _ i _ => n - (intOf i).toNat)
          case atStart => exact ⟨0, by omega, rfl, rfl, HST5.out⟩
          case round =>
            obtain ⟨j, hj, rfl, rfl, hst⟩ := hrel
            have HSTi := Lib.hid hst
            clear hst
            by_cases hjl : j < n
            · have e0 : wr.cell? ⟨tb, j, none⟩ = some (.int .i64 (f' j - 1)) := HSTi.out.had.at_ (by simp [hv, allv_get f' hjl])
              have g5 : (j : Int) < n := by omega
              have hcj := cnt_le f' j
              have HC : Hid (cnt f' (j + 1) = cnt f' j + (if 0 < f' j then 1 else 0)) := Lib.hid rfl
              rcases Int.lt_or_le (f' j - 1) 0 with hneg | hpos
              · rw [if_neg (by omega)] at HC
                go_wp2
                go_roundw
                case rel => exact ⟨j + 1, by omega, by go_num, by rw [HC.out]; rfl, HSTi.out⟩
                case measure => simp [intOf]; omega
              · rw [if_pos (by omega)] at HC
                go_wp2
                go_roundw
                case rel => exact ⟨j + 1, by omega, by go_num, by rw [HC.out]; go_num, HSTi.out⟩
                case measure => simp [intOf]; omega
            · obtain rfl : j = n := by omega
              go_wp2_with (go_at_call 14; refine (many_ok _ _ _ _ _ _ _ _ HSTi.out.lm).mono ?_; rintro e w' ⟨rfl, rfl⟩)
              go_roundw
              case rel => exact ⟨k + 1, m, pg5, f', by omega, by omega, by go_num, HSTi.out⟩
              case measure => simp [intOf]; omega
    · obtain rfl : k = l.length := by omega
      have HF2 := HST.out.lm.few
      have HTR : Hid (Rd wr (some ⟨tb, 0, none⟩) ((allv n f).map (.int .i64))) := Lib.hid (Rd.blk_all HST.out.had)
      have hal := allv_len n f
      have HBR := Lib.hid HST.out.below
      have hall := all_ok _ _ _ _ _ _ _ wr HST.out.lm
      obtain ⟨vs, hvs⟩ : ∃ vs, vs = allv n f := ⟨_, rfl⟩
      rw [← hvs] at HTR hal hall
      have HALL := Lib.hid hall
      have HAL := Lib.hid hal
      have hvn : vs.length ≤ 1000000 := by omega
      clear hvs hall hal
      go_wp2_with (first
        | (go_at_call 13; refine HALL.out.mono ?_; rintro e w6 ⟨v6, rfl, hown6, hb6⟩; obtain ⟨A6, c6, rfl, -, hrd6⟩ := own_form hown6; have HR6 := Lib.hid hrd6; have HT6 := Lib.hid (HTR.out.later hb6); have HB6 := Lib.hid (HBR.out.trans (hb6.mono hbs)); clear hown6 hb6 hrd6; rw [HAL.out])
        | (go_at_call 11; have he := equali_ok A6 (some ⟨tb, 0, none⟩) c6 n vs vs _ HR6.out HT6.out hvn; rw [HAL.out] at he; refine he.mono ?_; rintro e w7 ⟨rfl, n7, rfl⟩; have hd : decide (vs = vs) = true := decide_eq_true rfl))
      go_ret
      exact ⟨rfl, below_drewN HB6.out n7⟩
theorem lmapPlays_true (z : Int) (A : Option Addr) (len c : Nat) (w : World) (hz : (Lit.int .u8 z).wf = true)
    (h : len ≤ maxLen ∧ ∀ i, i < len → ∃ x, A = some x ∧ ∃ (c0 c1 : Int), w.cell? (x.add (i * 2 + 0)) = some (.int .i8 c0) ∧ w.cell? (x.add (i * 2 + 1)) = some (.int .i16 c1) ∧
      (Lit.int .i8 c0).wf = true ∧ (Lit.int .i16 c1).wf = true) :
    Calls Try.prog 6 #[.int .u8 z, .slice A len c] w fun e w' => e = .returned (.bool true) ∧ Below w.heap.size w w' := by
  obtain ⟨l, rfl, ra⟩ := argA_of h
  have h1 := u8_in_ hz
  exact plays_walk z A c l w ra h1.1 h1.2
end Go.Proofs.Ytmidbllmdpjgdaa
