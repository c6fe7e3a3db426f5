/- The walk of StageAll. No further condition. -/
import Derived.Test.YtnmmhkggojnlpaaSt7
namespace Go.Proofs.Ytnmmhkggojnlpaa
open Go.RowKit

/-! ### batch by batch -/
def Rise (l : List Rc) : Prop := l.Pairwise fun a b => a.seq < b.seq
theorem vw_app : ∀ p q : List Rc, ∃ s, vw (p ++ q) = s ++ vw q ∧ ∀ r ∈ s, r ∈ p := by
  intro p q
  induction p with
  | nil => exact ⟨[], rfl, fun r h => h⟩
  | cons a p ih =>
    obtain ⟨s, h1, h2⟩ := ih
    rw [List.cons_append, vw]
    split
    · exact ⟨s, h1, fun r h => List.mem_cons_of_mem _ (h2 r h)⟩
    · refine ⟨a :: s, by rw [h1]; rfl, fun r h => ?_⟩
      rcases List.mem_cons.1 h with rfl | h
      · exact List.mem_cons_self
      · exact List.mem_cons_of_mem _ (h2 r h)
theorem vw_sublist : ∀ l : List Rc, (vw l).Sublist l := by
  intro l
  induction l with
  | nil => exact List.Sublist.refl _
  | cons a l ih =>
    unfold vw
    split
    · exact ih.cons a
    · exact ih.cons_cons a
theorem vw_ne {l : List Rc} (h : l ≠ []) : vw l ≠ [] := by
  induction l with
  | nil => exact absurd rfl h
  | cons a l ih =>
    rcases l with _ | ⟨b, l⟩
    · simp [vw, hasL]
    · unfold vw
      split
      · exact ih (by simp)
      · simp
theorem rise_split {l : List Rc} (h : Rise l) (u : Int) : ∃ p, l = p ++ l.filter (fun r => decide (u < r.seq)) ∧ ∀ r ∈ p, r.seq ≤ u := by
  induction l with
  | nil => exact ⟨[], rfl, fun r h => by simp at h⟩
  | cons a l ih =>
    obtain ⟨h1, h2⟩ := List.pairwise_cons.1 h
    by_cases ha : u < a.seq
    · refine ⟨[], ?_, fun r h => by simp at h⟩
      rw [List.nil_append]
      symm
      rw [List.filter_eq_self]
      intro r hr
      rcases List.mem_cons.1 hr with rfl | hr
      · simpa using ha
      · have := h1 r hr
        simp
        omega
    · obtain ⟨p, e, hp⟩ := ih h2
      refine ⟨a :: p, ?_, fun r hr => ?_⟩
      · rw [List.filter_cons_of_neg (by simpa using ha), List.cons_append, ← e]
      · rcases List.mem_cons.1 hr with rfl | hr
        · omega
        · exact hp r hr
theorem split_one {s t b q : List Rc} {u : Int} (h : s ++ t = b ++ q) (hs : ∀ r ∈ s, r.seq ≤ u) (hb : ∀ r ∈ b, r.seq ≤ u) (ht : ∀ r ∈ t, u < r.seq) (hq : ∀ r ∈ q, u < r.seq) : s = b ∧ t = q := by
  have k1 : ∀ x : List Rc, (∀ r ∈ x, r.seq ≤ u) → x.filter (fun r => decide (u < r.seq)) = [] := fun x hx => by
    rw [List.filter_eq_nil_iff]
    intro r hr
    have := hx r hr
    simp
    omega
  have k2 : ∀ x : List Rc, (∀ r ∈ x, u < r.seq) → x.filter (fun r => decide (u < r.seq)) = x := fun x hx => by
    rw [List.filter_eq_self]
    intro r hr
    simpa using hx r hr
  have e := congrArg (List.filter fun r => decide (u < r.seq)) h
  rw [List.filter_append, List.filter_append, k1 s hs, k1 b hb, k2 t ht, k2 q hq, List.nil_append, List.nil_append] at e
  subst e
  exact ⟨List.append_cancel_right h, rfl⟩
theorem all_step {L : List Rc} {m : Int} (hm : 1 ≤ m) (hp : Rise L) (hL : L ≠ []) :
    0 < (bt L m).length ∧ bt L m ++ vw (L.filter fun r => decide (ups L m < r.seq)) = vw L ∧ (L.filter fun r => decide (ups L m < r.seq)).length < L.length := by
  have hv := vw_ne hL
  have hmx : 1 ≤ (mxI m 0).toNat := by unfold mxI; split <;> omega
  have hbl : (bt L m).length = min (mxI m 0).toNat (vw L).length := List.length_take
  have hvl : 0 < (vw L).length := List.length_pos_iff.2 hv
  have hpos : 0 < (bt L m).length := by omega
  obtain ⟨b0, r, hb⟩ : ∃ b0 r, bt L m = b0 ++ [r] := by
    rcases (bt L m).eq_nil_or_concat with h | ⟨b0, r, h⟩
    · rw [h] at hpos; simp at hpos
    · exact ⟨b0, r, by simpa using h⟩
  have hu : ups L m = r.seq := by unfold ups; rw [hb]; simp
  have hcat : bt L m ++ (vw L).drop (mxI m 0).toNat = vw L := List.take_append_drop _ _
  have hrise : Rise (vw L) := List.Pairwise.sublist (vw_sublist L) hp
  have hr2 : Rise (bt L m ++ (vw L).drop (mxI m 0).toNat) := by rw [hcat]; exact hrise
  obtain ⟨q1, q2, q3⟩ := List.pairwise_append.1 hr2
  obtain ⟨p, e, hpu⟩ := rise_split hp (ups L m)
  obtain ⟨s, e2, hs⟩ := vw_app p (L.filter fun r => decide (ups L m < r.seq))
  rw [← e] at e2
  have h4 := split_one (u := ups L m) (e2.symm.trans hcat.symm) (fun x hx => hpu x (hs x hx)) (fun x hx => by
      rw [hu]
      rw [hb] at hx q1
      rcases List.mem_append.1 hx with hx | hx
      · exact Int.le_of_lt ((List.pairwise_append.1 q1).2.2 x hx r (by simp))
      · simp at hx; subst hx; exact Int.le_refl _)
    (fun x hx => by have := vw_sub _ x hx; rw [List.mem_filter] at this; simpa using this.2)
    (fun x hx => by rw [hu]; exact q3 r (by rw [hb]; simp) x hx)
  refine ⟨hpos, ?_, ?_⟩
  · rw [h4.2]
    exact hcat
  · have hrL : r ∈ L := bt_mem (m := m) r (by rw [hb]; simp)
    rcases Nat.lt_or_ge (L.filter fun r => decide (ups L m < r.seq)).length L.length with h | h
    · exact h
    · exfalso
      have h5 : p.length = 0 := by have := congrArg List.length e; rw [List.length_append] at this; omega
      rw [List.eq_nil_of_length_eq_zero h5, List.nil_append] at e
      rw [e, List.mem_filter] at hrL
      have := hrL.2
      rw [hu] at this
      simp at this
theorem rise_make {R : List Rc} {l : List Im} {n : Int} (h : R.map Rc.con = mkc n l) : Rise R := by
  unfold Rise
  rw [List.pairwise_iff_getElem]
  intro i j hi hj hij
  have h1 : ∀ i, (hi : i < R.length) → (R[i]).seq = n + i := by
    intro i hi
    have := congrArg (·[i]?) h
    simp only [List.getElem?_map, List.getElem?_eq_getElem hi, Option.map_some, mkc, List.getElem?_mapIdx] at this
    rcases hl : l[i]? with _ | s
    · rw [hl] at this; cases this
    · rw [hl] at this
      injection this with this
      exact congrArg (·.1) this
  rw [h1 i hi, h1 j hj]
  omega
def lenOf : Value → Nat
  | .slice _ n _ => n
  | _ => 0
theorem filter_snoc (p : Rc → Bool) {l : List Rc} {k : Nat} {r : Rc} (h : l[k]? = some r) : (l.take (k + 1)).filter p = (l.take k).filter p ++ (if p r then [r] else []) := by
  rw [take_snoc_pk h, List.filter_append]
  congr 1
  cases hp : p r <;> simp [hp]
set_option maxRecDepth 100000 in
set_option maxHeartbeats 6400000 in
theorem all_walk (A0 : Option Addr) (c0 : Nat) (l : List Im) (x : Int) (w : World) (ra : ArgI w A0 l) (x0 : 0 ≤ x) (x1 : x < 256) :
    Calls Try.prog 6 #[.slice A0 l.length c0, .int .u8 x] w fun e w' => e = .returned (.bool true) ∧ Below w.heap.size w w' := by
  obtain ⟨i0, hi0, hz0, hz1, hz2⟩ := info_parts (show (Try.prog.info? 35).map (fun i => (i.zero, i.size, i.bytes)) = some (some (.agg #[.int .u64 0, .int .i64 0, .int .i64 0, .slice none 0 0]), 4, 48) by kernel_rfl)
  have ha := awake_ok w
  by_cases hlong : 60 < l.length
  · go_enter Try.func6, Try.ntmps6
    go_wp2_with (go_at_call 8; refine ha.mono ?_; rintro e w1 ⟨rfl, hb1⟩)
    go_ret
    exact ⟨rfl, hb1⟩
  have hfew : l.length ≤ 60 := by omega
  have HAW := Lib.hid ha
  have HRA := Lib.hid ra
  clear hlong ha ra
  go_enter Try.func6, Try.ntmps6
  go_wp2_with (first
    | (go_at_call 8; refine HAW.out.mono ?_; rintro e w1 ⟨rfl, hb1⟩; have HB1 := Lib.hid hb1; have HR1 := Lib.hid (HRA.out.later hb1); clear hb1)
    | (go_at_call 9; refine (make_rr1 A0 c0 l _ HR1.out (by omega)).mono ?_; rintro e w2 ⟨B, d, R, rfl, hRl, hrr, hcon, hb⟩; have HB2 := Lib.hid (HB1.out.trans (hb.mono HB1.out.size)); have HRR2 := Lib.hid hrr; have HRI := Lib.hid (rise_make hcon); clear hrr hcon hb hRl))
  have hfw := HRR2.out.few
  go_loopw [6, 7, 8, 9, 10, 12] (fun v u _ _ _ _ wr => ∃ (G L : List Rc) (A : Option Addr) (c : Nat), u = .slice A L.length c ∧ wr.ownsRow w2.heap.size 35 4 v G.length (rcs G) ∧ Rd wr A (rcs L) ∧ L.length ≤ c ∧ (∀ ad, A = some ad → ∃ h o, ad = ⟨h, o, none⟩) ∧ (∀ ad, A = some ad → v.ownBlock ≠ some ad.block) ∧ vw R = G ++ vw L ∧ Rise L ∧ (∀ r ∈ L, r ∈ R) ∧ L.length ≤ R.length ∧ Below w2.heap.size w2 wr) (fun _ u _ _ _ _ _ => lenOf u)
  case atStart => exact ⟨[], R, B, d, rfl, World.ownsRow_nil _ _ _ _, HRR2.out.rd, HRR2.out.cap, HRR2.out.form, (fun ad e h => by cases h), rfl, HRI.out, (fun r h => h), Nat.le_refl _, Below.refl _ _⟩
  case round =>
    obtain ⟨G, L, A, c, rfl, hown, hrd, hcap, hform, hne, hvw, hrise, hsub, hLl, hB⟩ := hrel
    obtain ⟨wo, hwo⟩ : ∃ wo, wo = wr := ⟨wr, rfl⟩
    subst hwo
    have HRRo := Lib.hid (HRR2.out.later hB)
    have HBo := Lib.hid (HB2.out.trans (hB.mono HB2.out.size))
    have hGl : G.length ≤ R.length := by
      have := congrArg List.length hvw
      rw [List.length_append] at this
      have := vw_len R
      omega
    have hGR : ∀ r ∈ G, r ∈ R := fun r hr => vw_sub R r (by rw [hvw]; exact List.mem_append_left _ hr)
    have HBb := Lib.hid hB
    have hbs := hB.size
    have HO := Lib.hid hown
    by_cases hL : L = []
    · subst hL
      have HVW : Hid (vw R = G) := Lib.hid (by rw [hvw]; simp [vw])
      obtain ⟨A6, c6, rfl, q⟩ := RR.of_own HO.out (fun r hr => HRRo.out.hd r (hGR r hr)) hGR (by omega) HRRo.out.wf HRRo.out.raw
      have HG := Lib.hid q
      clear q hvw hown hne hrd hcap hform hrise hsub hLl hGR hB
      go_wp2_with (first
        | (go_at_call 12; refine (lview_rr B d R _ HRRo.out).mono ?_; rintro e w6 ⟨B6, d6, rfl, hrr, hb⟩; rw [HVW.out] at hrr ⊢; have HB6 := Lib.hid (HBo.out.trans (hb.mono HBo.out.size)); have HG6 := Lib.hid (HG.out.later hb); have HV6 := Lib.hid hrr; clear hrr hb)
        | (go_at_call 10; refine (same_rr A6 B6 c6 d6 G G _ HG6.out HV6.out).mono ?_; rintro e w7 ⟨rfl, n7, rfl⟩; have hd7 : decide (G.map Rc.con = G.map Rc.con) = true := decide_eq_true rfl))
      go_ret
      exact ⟨rfl, below_drewN HB6.out n7⟩
    · have hst := all_step (m := 1 + x % 9) (by omega) hrise hL
      have hrrL : RR wo A c L := ⟨hrd, fun r hr => HRRo.out.hd r (hsub r hr), hform, hcap, by omega, fun r hr => HRRo.out.wf r (hsub r hr), fun r hr => HRRo.out.raw r (hsub r hr)⟩
      have hbt := batch_rr A c L (1 + x % 9) wo hrrL
      have hbm : ∀ r ∈ bt L (1 + x % 9), r ∈ L := bt_mem
      have hbl : (bt L (1 + x % 9)).length ≤ L.length := by
        have h1 := vw_len L
        have : (bt L (1 + x % 9)).length ≤ (vw L).length := by unfold bt; rw [List.length_take]; omega
        omega
      obtain ⟨b, hb⟩ : ∃ b, b = bt L (1 + x % 9) := ⟨_, rfl⟩
      obtain ⟨u, hu⟩ : ∃ u, u = ups L (1 + x % 9) := ⟨_, rfl⟩
      rw [← hb, ← hu] at hst hbt
      rw [← hb] at hbm hbl
      clear hb hu
      obtain ⟨h1, h2, h3⟩ := hst
      have hlp : 0 < L.length := List.length_pos_iff.2 hL
      have g1 : (0 : Int) < L.length := by omega
      have g2 : (0 : Int) < b.length := by omega
      have HBT := Lib.hid hbt
      have HRL := Lib.hid hrrL
      have HNE := Lib.hid hne
      have HH2 := Lib.hid h2
      have HH3 := Lib.hid h3
      have HVW := Lib.hid hvw
      have HRS := Lib.hid hrise
      have HSB := Lib.hid hsub
      have HFM := Lib.hid hform
      clear hbt hrrL hne h2 h3 hvw hrise hsub hform hB hown hrd hL hGR hbm
      go_wp2_with (first
        | (go_at_call 14; refine HBT.out.mono ?_; rintro e w4 ⟨D, e4, rfl, hrr, hb4⟩; have HD := Lib.hid hrr; have HO4 := Lib.hid (ownsRow_later HO.out hb4); have HL4 := Lib.hid (HRL.out.later hb4); have HB4 := Lib.hid (HBb.out.trans (hb4.mono hbs)); have hw4 := Nat.le_trans hbs hb4.size; clear hrr hb4)
        | (at_builtin; refine wpList_append_any _ rfl _ _ 25 rfl w2.heap.size 35 i0 _ 4 48 Try.underlying25 hi0 hz0 hz1 hz2 rfl (by decide) _ G.length (rcs G) rfl HO4.out D b.length e4 (rcs b) rfl (rcs_len b) HD.out.rd (rcs_one b) (by unfold maxLen; omega) (by omega) hw4 ?_; intro v5 w5 hown5 hg5 hat5; rw [← rcs_app, ← List.length_append] at hown5; have HO5 := Lib.hid hown5; have HB5 := Lib.hid (HB4.out.grown hg5 hw4 fun b hb => (HO4.out.lt b hb).1); have HL5 := Lib.hid (HL4.out.rd.fr (Fr.of_grown hg5) fun ad e h => HNE.out ad e h); clear hown5 hg5 hat5))
      have hb5 := HB5.out.size
      go_loopw [10, 12, 41] (fun v _ i wi => ∃ (j : Nat) (o : List Rc), j ≤ L.length ∧ i = .int .i64 j ∧ o = (L.take j).filter (fun r => decide (u < r.seq)) ∧ wi.ownsRow w5.heap.size 35 4 v o.length (rcs o) ∧ Below w5.heap.size w5 wi) (fun _ _ i _ => L.length - (intOf i).toNat)
      case atStart => exact ⟨0, [], by omega, rfl, rfl, World.ownsRow_nil _ _ _ _, Below.refl _ _⟩
      case round =>
        obtain ⟨j, o, hj, rfl, ho, hown, hBi⟩ := hrel
        have hol : o.length ≤ L.length := by
          rw [ho]
          refine Nat.le_trans (List.length_filter_le _ _) ?_
          rw [List.length_take]
          omega
        by_cases hjl : j < L.length
        · obtain ⟨r, hr⟩ : ∃ r, L[j]? = some r := ⟨_, List.getElem?_eq_getElem hjl⟩
          obtain ⟨y, rfl, c0, c1, c2, c3⟩ := rd_at (HL5.out.later hBi) hr
          have g3 : (j : Int) < L.length := by omega
          have HFS := Lib.hid (filter_snoc (fun r => decide (u < r.seq)) hr)
          have HE := Lib.hid ho
          have HOi := Lib.hid hown
          have HBi := Lib.hid hBi
          have hbi := hBi.size
          clear hr ho hown hBi
          by_cases hur : u < r.seq
          · have HFS2 : Hid ((L.take (j + 1)).filter (fun r => decide (u < r.seq)) = o ++ [r]) := Lib.hid (by rw [HFS.out, HE.out]; simp [hur])
            go_wp2_with (at_builtin; refine wpList_append_any _ rfl _ _ 25 rfl w5.heap.size 35 i0 _ 4 48 Try.underlying25 hi0 hz0 hz1 hz2 rfl (by decide) _ o.length (rcs o) rfl ((HOi.out.alloc _).alloc _) (some ⟨wr.heap.size + 1, 0, none⟩) 1 1 (rcv r) rfl rfl (Rd.blk_all (Blk.new_ _ _ _ (by simp))) (rcv_one r) (by unfold maxLen; omega) (by omega) (by simp; omega) ?_; intro v2 w6 hown2 hg2 hat2; rw [← rcs_snoc] at hown2; have HO2 := Lib.hid hown2; have HG2 := Lib.hid hg2; clear hown2 hg2 hat2)
            go_roundw
            case rel => exact ⟨j + 1, o ++ [r], by omega, by go_num, HFS2.out.symm, by rw [List.length_append]; exact HO2.out, ((HBi.out.alloc hbi _).alloc (by simp; omega) _).grown HG2.out (by simp; omega) fun b hb => (HOi.out.lt b hb).1⟩
            case measure => simp [intOf]; omega
          · have HFS2 : Hid ((L.take (j + 1)).filter (fun r => decide (u < r.seq)) = o) := Lib.hid (by rw [HFS.out, HE.out]; simp [hur])
            have hur' : r.seq ≤ u := by omega
            go_wp2
            go_roundw
            case rel => exact ⟨j + 1, o, by omega, by go_num, HFS2.out.symm, HOi.out.alloc _, HBi.out.alloc hbi _⟩
            case measure => simp [intOf]; omega
        · obtain rfl : j = L.length := by omega
          rw [List.take_length] at ho
          have HOi := Lib.hid hown
          obtain ⟨A', c', rfl, f1, f2, f3⟩ := own_form_ hown
          have hlt := HH3.out
          rw [← ho] at hlt
          have HVW2 : Hid (vw R = (G ++ b) ++ vw o) := Lib.hid (by rw [HVW.out, ho, List.append_assoc, HH2.out])
          have HRS2 : Hid (Rise o) := Lib.hid (by rw [ho]; exact List.Pairwise.sublist List.filter_sublist HRS.out)
          have HSB2 : Hid (∀ r ∈ o, r ∈ R) := Lib.hid fun r hr => HSB.out r (by rw [ho] at hr; exact (List.mem_filter.1 hr).1)
          have HNE2 : Hid (∀ ad, A' = some ad → v5.ownBlock ≠ some ad.block) := Lib.hid fun ad e h => by
            have k1 := (HO5.out.lt _ h).2
            have k2 := (HOi.out.lt ad.block (by rw [e]; rfl)).1
            omega
          have HF1 := Lib.hid f1
          have HF2 := Lib.hid f2
          have HBi := Lib.hid hBi
          have hlt2 : (o.length : Int) < L.length := by omega
          clear ho hown hBi f1 f2
          go_wp2
          go_roundw
          case rel => exact ⟨G ++ b, o, A', c', rfl, ownsRow_later HO5.out HBi.out, HF2.out, f3, HF1.out, HNE2.out, HVW2.out, HRS2.out, HSB2.out, by omega, HB5.out.trans (HBi.out.mono hb5)⟩
          case measure => simp [lenOf]; omega
theorem stageAll_true (A : Option Addr) (len c : Nat) (x : Int) (w : World)
    (h : len ≤ maxLen ∧ ∀ i, i < len → ∃ x, A = some x ∧ ∃ (c0 c1 c2 : Int), w.cell? (x.add (i * 3 + 0)) = some (.int .u8 c0) ∧ w.cell? (x.add (i * 3 + 1)) = some (.int .i8 c1) ∧ w.cell? (x.add (i * 3 + 2)) = some (.int .u8 c2) ∧
      (Lit.int .u8 c0).wf = true ∧ (Lit.int .i8 c1).wf = true ∧ (Lit.int .u8 c2).wf = true) (hf : (Lit.int .u8 x).wf = true) :
    Calls Try.prog 6 #[.slice A len c, .int .u8 x] w fun e w' => e = .returned (.bool true) ∧ Below w.heap.size w w' := by
  obtain ⟨l, rfl, ra⟩ := argI_of h
  have hf' := u8_in_ hf
  exact all_walk A c l x w ra hf'.1 hf'.2
end Go.Proofs.Ytnmmhkggojnlpaa
