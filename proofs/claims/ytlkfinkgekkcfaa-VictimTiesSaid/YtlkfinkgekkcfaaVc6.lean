/- The walk of VictimTies. No further condition. -/
import Derived.Test.YtlkfinkgekkcfaaVc5
import Derived.Test.YtlkfinkgekkcfaaMapz
namespace Go.Proofs.Ytlkfinkgekkcfaa
open Go.RowKit

theorem MTii : MT Try.prog 39 3 3 .i64 := ⟨by kernel_rfl, by kernel_rfl, by kernel_rfl, fun _ => by kernel_rfl⟩
/-- What tie t takes of a list. -/
def pk (B : List Nat) (t : Nat) : Nat := B.getD (t % B.length) 0
theorem pk_mem {B : List Nat} {t : Nat} (h : 0 < B.length) : pk B t ∈ B := by
  unfold pk
  have := Nat.mod_lt t h
  rw [List.getD_eq_getElem?_getD, List.getElem?_eq_getElem this]
  exact List.getElem_mem this
theorem pk_eq {B : List Nat} (hn : B.Nodup) (h : 0 < B.length) {s t : Nat} : pk B s = pk B t ↔ s % B.length = t % B.length := by
  have h1 := Nat.mod_lt s h
  have h2 := Nat.mod_lt t h
  unfold pk
  rw [List.getD_eq_getElem?_getD, List.getD_eq_getElem?_getD, List.getElem?_eq_getElem h1, List.getElem?_eq_getElem h2]
  simp only [Option.getD_some]
  constructor
  · exact fun e => (List.getElem_inj hn).1 e
  · intro e
    congr 1
theorem pk_seen {B : List Nat} (hn : B.Nodup) (h : 0 < B.length) (t j : Nat) : (∃ i, i < j ∧ pk B (t + i) = pk B (t + j)) ↔ B.length ≤ j := by
  constructor
  · rintro ⟨i, hi, e⟩
    rw [pk_eq hn h] at e
    have e2 : (t + j - (t + i)) % B.length = 0 := Nat.sub_mod_eq_zero_of_mod_eq e.symm
    have e3 : t + j - (t + i) = j - i := by omega
    rw [e3] at e2
    have := Nat.le_of_dvd (by omega) (Nat.dvd_of_mod_eq_zero e2)
    omega
  · intro hj
    refine ⟨j - B.length, by omega, ?_⟩
    rw [pk_eq hn h, show t + j = t + (j - B.length) + B.length by omega, Nat.add_mod_right]
theorem chosen_pk {p blocks now : Int} {l : List Sg} {t : Nat} (h : 0 < (bests p blocks now l l.length).length) (ht : t < 18446744073709551616) : chosen p blocks now t l = (pk (bests p blocks now l l.length) t : Int) := by
  unfold chosen pk
  rw [if_neg (by omega)]
  congr 2
  have e1 : ((t : Int) % 18446744073709551616) = t := by omega
  rw [e1]
  omega
theorem bests_nodup (p blocks now : Int) (l : List Sg) (k : Nat) : (bests p blocks now l k).Nodup := by
  rw [bests_eq]
  exact List.nodup_range.filter _
theorem bests_none {p blocks now : Int} {l : List Sg} (h : (bests p blocks now l l.length).length = 0) : ∀ s ∈ l, s.1 ≠ 2 := by
  intro s hs e
  obtain ⟨j, hj⟩ := List.getElem?_of_mem hs
  have hjl := (List.getElem?_eq_some_iff.1 hj).1
  obtain ⟨i, hi, ho⟩ := okB_some p blocks now l l.length ⟨j, hjl, by rw [sgD_of hj]; exact e⟩
  have : i ∈ bests p blocks now l l.length := by rw [bests_eq]; exact List.mem_filter.2 ⟨List.mem_range.2 hi, ho⟩
  rw [List.eq_nil_of_length_eq_zero h] at this
  simp at this
theorem bests_some {p blocks now : Int} {l : List Sg} (h : 0 < (bests p blocks now l l.length).length) : ∃ s ∈ l, s.1 = 2 := by
  obtain ⟨i, hi⟩ := List.exists_mem_of_length_pos h
  rw [bests_eq] at hi
  obtain ⟨h1, h2⟩ := List.mem_filter.1 hi
  have hl := List.mem_range.1 h1
  have := (okB_iff.1 h2).1
  rw [sgD_of (List.getElem?_eq_getElem hl)] at this
  exact ⟨_, List.getElem_mem hl, this⟩
/-- How many are sealed among the first k. -/
theorem cnt_pos {l : List Sg} : cnt 2 l = 0 ↔ ∀ s ∈ l, s.1 ≠ 2 := by
  unfold cnt
  rw [List.length_eq_zero_iff, List.filter_eq_nil_iff]
  simp
/-- The seen ones behind j ties. -/
structure Sn (B : List Nat) (t j : Nat) (f : Int → Option Int) : Prop where
  is : ∀ x, (f x).isSome = true ↔ 0 < B.length ∧ ∃ i, i < j ∧ (pk B (t + i) : Int) = x
  lo : ∀ x v, f x = some v → 0 ≤ v ∧ v ≤ j
theorem Sn.zero (B : List Nat) (t : Nat) : Sn B t 0 (fun _ => none) := ⟨fun x => by simp, fun x v h => by cases h⟩
theorem Sn.none {B : List Nat} {t j : Nat} {f : Int → Option Int} (h : Sn B t j f) (hB : B.length = 0) : Sn B t (j + 1) f :=
  ⟨fun x => by rw [h.is]; constructor <;> (intro q; omega), fun x v e => by have := h.lo x v e; omega⟩
theorem Sn.step {B : List Nat} {t j : Nat} {f : Int → Option Int} (h : Sn B t j f) (hB : 0 < B.length) : Sn B t (j + 1) (updM f (pk B (t + j)) ((f (pk B (t + j))).getD 0 + 1)) := by
  constructor
  · intro x
    unfold updM
    by_cases hx : x = (pk B (t + j) : Int)
    · subst hx
      rw [if_pos rfl]
      exact ⟨fun _ => ⟨hB, j, by omega, rfl⟩, fun _ => rfl⟩
    · rw [if_neg hx, h.is]
      constructor
      · rintro ⟨h1, i, hi, e⟩
        exact ⟨h1, i, by omega, e⟩
      · rintro ⟨h1, i, hi, e⟩
        refine ⟨h1, i, ?_, e⟩
        rcases Nat.lt_or_ge i j with q | q
        · exact q
        · obtain rfl : i = j := by omega
          exact absurd e.symm hx
  · intro x v e
    unfold updM at e
    split at e
    · injection e with e
      rcases hf : f (pk B (t + j)) with _ | u
      · rw [hf] at e
        simp at e
        omega
      · rw [hf] at e
        simp at e
        have := h.lo _ u hf
        omega
    · have := h.lo x v e
      omega
theorem Sn.size {B : List Nat} {t j : Nat} {f : Int → Option Int} (h : Sn B t j f) (hn : B.Nodup) (hB : 0 < B.length) : (if (f (pk B (t + j))).isSome then min j B.length else min j B.length + 1) = min (j + 1) B.length := by
  have h1 := h.is (pk B (t + j))
  have h2 := pk_seen hn hB t j
  by_cases hj : B.length ≤ j
  · rw [if_pos (h1.2 ⟨hB, by obtain ⟨i, hi, e⟩ := h2.2 hj; exact ⟨i, hi, by rw [e]⟩⟩)]
    omega
  · rw [if_neg (by
      intro q
      obtain ⟨-, i, hi, e⟩ := h1.1 q
      exact hj (h2.1 ⟨i, hi, by omega⟩))]
    omega
/-- What stands while the ties go by. -/
structure TS (w wr : World) (h mb j t : Nat) (l : List Sg) (B : List Nat) : Prop where
  tab : Tab wr (h + 1) h l
  below : Below w.heap.size w wr
  seen : ∃ m f, m ≤ j ∧ IZ Try.prog 3 3 .i64 wr mb m f (min j B.length) ∧ Sn B t j f
theorem TS.later {w wr W : World} {h mb j t : Nat} {l : List Sg} {B : List Nat} (k : TS w wr h mb j t l B) (hb : Below wr.heap.size wr W) : TS w W h mb j t l B := by
  obtain ⟨m, f, h1, h2, h3⟩ := k.seen
  exact ⟨k.tab.later hb, k.below.trans (hb.mono k.below.size), m, f, h1, h2.later hb, h3⟩
/-- Two segments' cells, beside it. -/
structure Six (w wr : World) (h mb j t : Nat) (l : List Sg) (B : List Nat) (x y : Addr) (s o : Sg) : Prop where
  ts : TS w wr h mb j t l B
  cells : wr.cell? x = some (.int .i64 s.1) ∧ wr.cell? ⟨x.block, x.off + 1, none⟩ = some (.int .i64 s.2.1) ∧ wr.cell? ⟨x.block, x.off + 2, none⟩ = some (.int .u64 s.2.2) ∧ wr.cell? y = some (.int .i64 o.1) ∧ wr.cell? ⟨y.block, y.off + 1, none⟩ = some (.int .i64 o.2.1) ∧ wr.cell? ⟨y.block, y.off + 2, none⟩ = some (.int .u64 o.2.2)
theorem Six.later {w wr W : World} {h mb j t : Nat} {l : List Sg} {B : List Nat} {x y : Addr} {s o : Sg} (k : Six w wr h mb j t l B x y s o) (hb : Below wr.heap.size wr W) : Six w W h mb j t l B x y s o := by
  obtain ⟨a0, a1, a2, a3, a4, a5⟩ := k.cells
  have q : ∀ {p : Addr} {u : Value}, wr.cell? p = some u → W.cell? p = some u := fun hc => (hb.cell (World.block_lt_of_cell? wr _ hc)).trans hc
  exact ⟨k.ts.later hb, q a0, q a1, q a2, q a3, q a4, q a5⟩
set_option maxRecDepth 100000 in
set_option maxHeartbeats 6400000 in
theorem ties_walk (z : Int) (A : Option Addr) (c b t : Nat) (now : Int) (l : List Sg) (w : World) (z0 : 0 ≤ z) (z1 : z ≤ 255) (hb : b ≤ 255) (ht8 : t ≤ 255) (ra : ArgL w A l) (hwf : ∀ s ∈ l, Wf s) (hm : l.length ≤ 9223372036854775807) (kn : 0 ≤ now) (kn2 : now ≤ 18446744073709551615) :
    Calls Try.prog 5 #[.int .u8 z, .slice A l.length c, .int .u8 b, .int .u64 now, .int .u8 t] w fun e w' => e = .returned (.bool true) ∧ Below w.heap.size w w' := by
  have ha := awake_ok w
  by_cases hlong : 12 < l.length
  · go_enter Try.func5, Try.ntmps5
    go_wp2_with (go_at_call 8; refine ha.mono ?_; rintro e w1 ⟨rfl, hb1⟩)
    go_ret
    exact ⟨rfl, hb1⟩
  have hfew : l.length ≤ 12 := by omega
  obtain ⟨p, hp⟩ : ∃ p : Int, p = z % 2 := ⟨_, rfl⟩
  have hmm := @run_makeMap_ Try.prog
  have HRA := Lib.hid ra
  have HWF := Lib.hid hwf
  clear ra hwf hm hlong
  go_enter Try.func5, Try.ntmps5
  go_wp2_with (first
    | (go_at_call 8; refine ha.mono ?_; rintro e w1 ⟨rfl, hb1⟩)
    | (go_at_call 11; refine (new_ok l.length _ (by omega)).mono ?_; rintro e w2 ⟨rfl, ht2, hb2, hz2'⟩))
  rw [← hp]
  have hp0 : 0 ≤ p ∧ p ≤ 1 := by omega
  clear hp
  have hB2 := hb1.trans (hb2.mono hb1.size)
  have hwh : w.heap.size ≤ w1.heap.size := hb1.size
  obtain ⟨h, hh⟩ : ∃ h, h = w1.heap.size := ⟨_, rfl⟩
  rw [← hh] at ht2 hwh ⊢
  rw [← part_zero] at ht2
  clear hh ha hb1 hb2 hz2'
  go_loopw [13, 14, 15, 37] (fun so _ _ i wr => ∃ k : Nat, k ≤ l.length ∧ i = .int .i64 k ∧ so = .int .i64 (cnt 2 (l.take k) : Int) ∧ Tab wr (h + 1) h (part l k) ∧ Below w.heap.size w wr) (fun _ _ _ i _ => l.length - (intOf i).toNat)
  case atStart => exact ⟨0, by omega, rfl, rfl, ht2, hB2⟩
  case round =>
    clear ht2 hB2
    obtain ⟨k, hk, rfl, rfl, ht, hB⟩ := hrel
    by_cases hlt : k < l.length
    · obtain ⟨s, hs⟩ : ∃ s, l[k]? = some s := ⟨_, List.getElem?_eq_getElem hlt⟩
      obtain ⟨x, rfl, c0, c1, c2⟩ := HRA.out.below hB k s hs
      have hs1 := fun W ht => set_any (h + 1) h k (part l k) s W ht
      rw [part_step l k s hs] at hs1
      have ht1 := ht.later ((Below.refl wr.heap.size wr).alloc (Nat.le_refl _) (.cells #[.int .i64 s.1, .int .i64 s.2.1, .int .u64 s.2.2] 25))
      have HB1 := Lib.hid (hB.alloc hB.size (.cells #[.int .i64 s.1, .int .i64 s.2.1, .int .u64 s.2.2] 25))
      have hsz := hB.size
      have HC := Lib.hid (cnt_snoc 2 l k s hs)
      have hcl : cnt 2 (l.take k) ≤ 12 := Nat.le_trans (cnt_le _ _) (by rw [List.length_take]; omega)
      have htl := ht.row.lt
      have HT1 := Lib.hid ht1
      have HS1 := Lib.hid hs1
      have HBI := Lib.hid (Blk.new wr 25 #[.int .i64 s.1, .int .i64 s.2.1, .int .u64 s.2.2])
      have g1 : (k : Int) < l.length := by omega
      clear ht hB hs ht1 hs1
      rcases Bool.eq_false_or_eq_true (s.1 == 2) with h2 | h2
      all_goals
        rw [h2] at HC
        go_wp2_with (go_at_call 12; refine (HS1.out _ HT1.out).mono ?_; rintro e w3 ⟨rfl, hT3⟩; have hI3 := HBI.out.fr hT3.fr (fun e : wr.heap.size = h => by omega); have d0 := hI3.at_ (i := 0) (u := .int .i64 s.1) rfl)
        go_roundw
        case rel => exact ⟨k + 1, by omega, by go_num, by rw [HC.out]; first | rfl | go_num, hT3.tab, HB1.out.trans (hT3.fr.toBelow (by simp; omega) fun b hb e => by omega)⟩
        case measure => simp [intOf]; omega
    · obtain rfl : k = l.length := by omega
      rw [part_all] at ht
      rw [List.take_length]
      have hcl : cnt 2 l ≤ 12 := Nat.le_trans (cnt_le _ _) hfew
      obtain ⟨B, hBB⟩ : ∃ B, B = bests p b now l l.length := ⟨_, rfl⟩
      have HBB := Lib.hid hBB
      have hbl : B.length ≤ l.length := by rw [hBB]; exact bests_len p b now l l.length
      have hT0 : TS w (wr.alloc (.map #[] 0)) h wr.heap.size 0 t l B := ⟨ht.later ((Below.refl _ _).alloc (Nat.le_refl _) _), hB.alloc hB.size _, 0, fun _ => none, by omega, by rw [Nat.zero_min]; exact IZ.made _ _ _ _ wr rfl, Sn.zero B t⟩
      have HT0 := Lib.hid hT0
      clear hT0 ht hBB
      have hbsz := hB.size
      clear hB
      obtain ⟨mb, hmb⟩ : ∃ mb, mb = wr.heap.size := ⟨_, rfl⟩
      have HMB : Hid (w.heap.size ≤ mb) := Lib.hid (by omega)
      go_wp2
      rw [← hmb] at HT0 ⊢
      clear hmb
      have hse : ((cnt 2 l : Int) == 0) = decide (B.length = 0) := by
        by_cases hB0 : B.length = 0
        · rw [cnt_pos.2 (bests_none (by rw [← HBB.out]; exact hB0)), decide_eq_true hB0]
          rfl
        · obtain ⟨s, hs, e⟩ := bests_some (p := p) (blocks := b) (now := now) (l := l) (by rw [← HBB.out]; omega)
          have : cnt 2 l ≠ 0 := fun h0 => cnt_pos.1 h0 s hs e
          rw [decide_eq_false hB0, beq_eq_false_iff_ne]
          omega
      have HSE := Lib.hid hse
      clear hse
      generalize (cnt 2 l : Int) = sl at HSE ⊢
      have hnd : B.Nodup := by rw [HBB.out]; exact bests_nodup p b now l l.length
      have HND := Lib.hid hnd
      clear hnd
      go_loopw [17, 18, 19, 56] (fun _ _ _ i wi => ∃ j : Nat, j ≤ l.length + 1 ∧ i = .int .i64 j ∧ TS w wi h mb j t l B) (fun _ _ _ i _ => l.length + 1 - (intOf i).toNat)
      case atStart => exact ⟨0, by omega, rfl, HT0.out⟩
      case round =>
        obtain ⟨j, hj, rfl, hts⟩ := hrel
        have HTS := Lib.hid hts
        clear hts
        by_cases hlt : j < l.length + 1
        · have g1 : (j : Int) < (l.length : Int) + 1 := by omega
          have hch := fun W ht => choose_ok p (h + 1) h b now (((t + j : Nat) : Int)) l W ht HWF.out kn kn2
          have ett : ((t + j : Nat) : Int) = (t : Int) + j := by omega
          rcases Nat.eq_zero_or_pos B.length with hB0 | hB0
          · have hc0 : (sl == 0) = true := by rw [HSE.out, decide_eq_true hB0]
            have e1 : chosen p b now ((t + j : Nat) : Int) l = -1 := by unfold chosen; rw [if_pos (by rw [← HBB.out]; exact hB0)]
            rw [e1, ett] at hch
            have HCH := Lib.hid hch
            have HB0 := Lib.hid hB0
            clear hch e1 ett hB0
            go_wp2_with (go_at_call 13; refine (HCH.out _ HTS.out.tab).mono ?_; rintro e w5 ⟨rfl, hb5⟩; have HTS5 := Lib.hid (HTS.out.later hb5); clear hb5)
            go_roundw
            case rel => exact ⟨j + 1, by omega, by go_num, HTS5.out.tab, HTS5.out.below, by
              obtain ⟨m, f, h1, h2, h3⟩ := HTS5.out.seen
              refine ⟨m, f, by omega, ?_, h3.none HB0.out⟩
              rw [HB0.out, Nat.min_zero] at h2 ⊢
              exact h2⟩
            case measure => simp [intOf]; omega
          · have hc0 : (sl == 0) = false := by rw [HSE.out, decide_eq_false (by omega)]
            have e1 : chosen p b now ((t + j : Nat) : Int) l = (pk B (t + j) : Int) := by
              rw [HBB.out]
              exact chosen_pk (by rw [← HBB.out]; exact hB0) (by omega)
            obtain ⟨q, hq⟩ : ∃ q, q = pk B (t + j) := ⟨_, rfl⟩
            have hqm : q ∈ bests p b now l l.length := by rw [hq, ← HBB.out]; exact pk_mem hB0
            rw [bests_eq] at hqm
            obtain ⟨hq1, hq2⟩ := List.mem_filter.1 hqm
            have hql := List.mem_range.1 hq1
            obtain ⟨o1, o2⟩ := okB_iff.1 hq2
            obtain ⟨s, hs⟩ : ∃ s, l[q]? = some s := ⟨_, List.getElem?_eq_getElem hql⟩
            rw [sgD_of hs] at o1
            have ho2 : ∀ (k : Nat) (o : Sg), l[k]? = some o → o.1 = 2 → better p o s b now = false := fun k o hk h2 => by
              have := o2 k (List.getElem?_eq_some_iff.1 hk).1 (by rw [sgD_of hk]; exact h2)
              rw [sgD_of hk, sgD_of hs] at this
              exact this
            rw [e1, ett, ← hq] at hch
            have HCH := Lib.hid hch
            have HB0 := Lib.hid hB0
            have HQ := Lib.hid hq
            have HO2 := Lib.hid ho2
            have HSS := Lib.hid hs
            have hws := HWF.out s (List.mem_of_getElem? hs)
            have hs2 : (s.1 != 2) = false := by simp [o1]
            have hq0 : (0 : Int) ≤ q := by omega
            obtain ⟨m, f, hmj, hiz, hsn⟩ := HTS.out.seen
            obtain ⟨v, hv⟩ : ∃ v, v = (f (q : Int)).getD 0 := ⟨_, rfl⟩
            have hvb : 0 ≤ v ∧ v ≤ j := by
              rw [hv]
              rcases hf : f (q : Int) with _ | u
              · exact ⟨by decide, by simp⟩
              · exact hsn.lo _ u hf
            have hsz := hsn.size HND.out hB0
            have hst := hsn.step hB0
            rw [← hq, ← hv] at hst
            rw [← hq] at hsz
            have HIZ := Lib.hid hiz
            have HSZ := Lib.hid hsz
            have HST := Lib.hid hst
            have HV := Lib.hid hv
            obtain ⟨hv0, hv1⟩ := hvb
            clear hch e1 ett hB0 hq hqm hq1 hq2 o1 o2 hs ho2 hiz hsz hst hsn hv
            have hfs : ∀ w : World, (Instr.field 25 (.agg #[.int .i64 s.1, .int .i64 s.2.1, .int .u64 s.2.2]) 0).run Try.prog w = .ok (.int .i64 s.1) w := fun _ => by kernel_rfl
            go_wp2_with (first
              | (go_at_call 13; refine (HCH.out _ HTS.out.tab).mono ?_; rintro e w5 ⟨rfl, hb5⟩; have HT5 := Lib.hid (HTS.out.tab.later hb5); have HB5 := Lib.hid (HTS.out.below.trans (hb5.mono HTS.out.below.size)); have HI5 := Lib.hid (HIZ.out.later hb5); have hlk := HI5.out.im.lookup MTii (i := (q : Int)) (i64_wf (by omega) (by omega)); rw [← HV.out] at hlk; clear hb5)
              | (at_mapUpdate; refine wpList_storez rfl _ _ _ rfl MTii rfl HI5.out (by unfold maxLen; omega) (i := (q : Int)) (v := v + 1) rfl rfl (i64_wf (by omega) (by omega)) (i64_wf (by omega) (by omega)) ?_; intro w6 hz6 hg6; rw [HSZ.out] at hz6; have HTS6 : Hid (TS w w6 h mb (j + 1) t l B) := Lib.hid ⟨HT5.out.fr (Fr.of_grown hg6) (fun e => HI5.out.im.not_cells HT5.out.own (by injection e with e; exact e.symm)) (fun e => HI5.out.im.not_cells HT5.out.row (by injection e with e; exact e.symm)), HB5.out.grown hg6 (HB5.out.size) (fun b hb => by injection hb with hb; subst hb; exact HMB.out), m + 1, _, by omega, hz6, HST.out⟩; clear hz6 hg6))
            clear hlk
            go_loopw [19, 82] (fun _ i wi => ∃ r : Nat, r ≤ l.length ∧ i = .int .i64 r ∧ TS w wi h mb (j + 1) t l B) (fun _ i _ => l.length - (intOf i).toNat)
            case atStart => exact ⟨0, by omega, rfl, HTS6.out⟩
            case round =>
              obtain ⟨r, hr, rfl, hts⟩ := hrel
              have HX := Lib.hid hts
              clear hts
              by_cases hrl : r < l.length
              · obtain ⟨o, ho⟩ : ∃ o, l[r]? = some o := ⟨_, List.getElem?_eq_getElem hrl⟩
                have hwo := HWF.out o (List.mem_of_getElem? ho)
                have HOO := Lib.hid ho
                have HBO := Lib.hid (HO2.out r o ho)
                have hfo : ∀ w : World, (Instr.field 25 (.agg #[.int .i64 o.1, .int .i64 o.2.1, .int .u64 o.2.2]) 0).run Try.prog w = .ok (.int .i64 o.1) w := fun _ => by kernel_rfl
                have g2 : (r : Int) < l.length := by omega
                clear ho
                by_cases h2 : o.1 = 2
                · have h2' : (o.1 == 2) = true := by simp [h2]
                  have hbt := fun W => better_any p o s b now W hwo hws kn kn2
                  rw [HBO.out h2] at hbt
                  have HBT := Lib.hid hbt
                  clear h2 hbt
                  go_wp2_with (first
                    | (go_at_call 14; with_reducible refine (at_yes (h + 1) h q l s _ HX.out.tab HSS.out).mono ?_; rintro e w7 ⟨rfl, hb7⟩; have HX := Lib.hid (HX.out.later hb7); clear hb7)
                    | (go_at_call 14; with_reducible refine (at_yes (h + 1) h r l o _ HX.out.tab HOO.out).mono ?_; rintro e w7 ⟨rfl, hb7⟩; have HX := Lib.hid (HX.out.later hb7); clear hb7)
                    | (go_at_call 10; refine (HBT.out _).mono ?_; rintro e w7 ⟨rfl, hb7⟩; have HX := Lib.hid (HX.out.later hb7); clear hb7))
                  go_roundw
                  case rel => exact ⟨r + 1, by omega, by go_num, HX.out⟩
                  case measure => simp [intOf]; omega
                · have h2' : (o.1 == 2) = false := by simp [h2]
                  clear h2
                  go_wp2_with (first
                    | (go_at_call 14; with_reducible refine (at_yes (h + 1) h q l s _ HX.out.tab HSS.out).mono ?_; rintro e w7 ⟨rfl, hb7⟩; have HX := Lib.hid (HX.out.later hb7); clear hb7)
                    | (go_at_call 14; with_reducible refine (at_yes (h + 1) h r l o _ HX.out.tab HOO.out).mono ?_; rintro e w7 ⟨rfl, hb7⟩; have HX := Lib.hid (HX.out.later hb7); clear hb7))
                  go_roundw
                  case rel => exact ⟨r + 1, by omega, by go_num, HX.out⟩
                  case measure => simp [intOf]; omega
              · obtain rfl : r = l.length := by omega
                go_wp2
                go_roundw
                case rel => exact ⟨j + 1, by omega, by go_num, HX.out⟩
                case measure => simp [intOf]; omega
        · have HJ := Lib.hid (show j = l.length + 1 by omega)
          have hge : (l.length : Int) + 1 ≤ (j : Int) := by omega
          have hj13 : j ≤ 13 := by omega
          clear hlt hj
          go_wp2
          go_loopw [20, 21, 22, 23, 114] (fun v _ _ _ i wi => ∃ k : Nat, k ≤ l.length ∧ i = .int .i64 k ∧ v = .int .i64 (((List.range k).filter (okB p b now l l.length)).length : Int) ∧ TS w wi h mb j t l B) (fun _ _ _ _ i _ => l.length - (intOf i).toNat)
          case atStart => exact ⟨0, by omega, rfl, rfl, HTS.out⟩
          case round =>
            obtain ⟨k, hk, rfl, rfl, hts⟩ := hrel
            have HX := Lib.hid hts
            clear hts
            have hfl := filter_len (okB p b now l l.length) k
            have HFS := Lib.hid (filter_snoc (okB p b now l l.length) k)
            by_cases hkl : k < l.length
            · obtain ⟨s, hs⟩ : ∃ s, l[k]? = some s := ⟨_, List.getElem?_eq_getElem hkl⟩
              have hws := HWF.out s (List.mem_of_getElem? hs)
              obtain ⟨xa, rfl, c0, c1, c2⟩ := HRA.out.below HX.out.below k s hs
              have hok0 : okB p b now l 0 k = (s.1 == 2) := by
                unfold okB
                rw [sgD_of hs]
                simp only [List.range_zero, List.all_nil, Bool.and_true]
                rfl
              have HS := Lib.hid hs
              have HO := Lib.hid hok0
              have g1 : (k : Int) < l.length := by omega
              generalize hBL : (List.range k).filter (okB p b now l l.length) = BL at HFS hfl ⊢
              clear hBL hs hok0
              go_wp2
              go_loopw [22, 23, 125] (fun ok _ m wi => ∃ r : Nat, r ≤ l.length ∧ m = .int .i64 r ∧ ok = .bool (okB p b now l r k) ∧ TS w wi h mb j t l B) (fun _ _ m _ => l.length - (intOf m).toNat)
              case atStart => exact ⟨0, by omega, rfl, by rw [HO.out], HX.out⟩
              case round =>
                obtain ⟨r, hr, rfl, rfl, hts⟩ := hrel
                have HY := Lib.hid hts
                clear hts
                by_cases hrl : r < l.length
                · obtain ⟨o, ho⟩ : ∃ o, l[r]? = some o := ⟨_, List.getElem?_eq_getElem hrl⟩
                  have hwo := HWF.out o (List.mem_of_getElem? ho)
                  obtain ⟨_, e', d0, d1, d2⟩ := HRA.out.below HY.out.below r o ho
                  cases e'
                  obtain ⟨_, e', c0, c1, c2⟩ := HRA.out.below HY.out.below k s HS.out
                  cases e'
                  have hext := okB_ext p b now l r k
                  rw [sgD_of ho, sgD_of HS.out] at hext
                  have g2 : (r : Int) < l.length := by omega
                  have g3 : (0 : Int) ≤ r := by omega
                  have g4 : (0 : Int) ≤ k := by omega
                  clear ho
                  rcases hv : okB p b now l r k with _ | _
                  · rw [hv] at hext
                    have HE := Lib.hid hext
                    clear hv hext
                    go_wp2
                    go_quiet (fail)
                    go_wp2
                    go_roundw
                    case rel => exact ⟨r + 1, by omega, by go_num, by rw [HE.out]; rfl, HY.out.later (below_drewN (Below.refl _ _) _)⟩
                    case measure => simp [intOf]; omega
                  · rw [hv] at hext
                    by_cases h2 : o.1 = 2
                    · have h2n : (o.1 != 2) = false := by simp [h2]
                      rw [decide_eq_true h2] at hext
                      have hbt := fun W => better_any p o s b now W hwo hws kn kn2
                      have HE := Lib.hid hext
                      have HBT := Lib.hid hbt
                      clear hv hext h2 hbt
                      go_wp2
                      have hwb : IntKind.i64.wrap (b : Int) = b := IntWalk.i64_in _ (by omega)
                      have hsix : Six w wr.drew h mb j t l B (xa.add (k * 3)) (xa.add (r * 3)) s o := Six.later ⟨HY.out, c0, c1, c2, d0, d1, d2⟩ (below_drewN (Below.refl _ _) 1)
                      have HSX := Lib.hid hsix
                      clear hsix
                      go_region_held3 (fun w' => w'.cell? (xa.add (k * 3)) = some (.int .i64 s.1) ∧ w'.cell? ⟨(xa.add (k * 3)).block, (xa.add (k * 3)).off + 1, none⟩ = some (.int .i64 s.2.1) ∧ w'.cell? ⟨(xa.add (k * 3)).block, (xa.add (k * 3)).off + 2, none⟩ = some (.int .u64 s.2.2) ∧ w'.cell? (xa.add (r * 3)) = some (.int .i64 o.1) ∧ w'.cell? ⟨(xa.add (r * 3)).block, (xa.add (r * 3)).off + 1, none⟩ = some (.int .i64 o.2.1) ∧ w'.cell? ⟨(xa.add (r * 3)).block, (xa.add (r * 3)).off + 2, none⟩ = some (.int .u64 o.2.2))
                        (exact ⟨by assumption, by assumption, by assumption, by assumption, by assumption, by assumption⟩)
                        (first
                          | (go_at_call 10; refine (HBT.out _).mono ?_; rintro e w7 ⟨rfl, hb7⟩; have HS7 := Lib.hid (HSX.out.later hb7); obtain ⟨t0, t1, t2, t3, t4, t5⟩ := HS7.out.cells; clear hb7))
                      go_wp2
                      go_roundw
                      case rel => exact ⟨r + 1, by omega, by go_num, by rw [HE.out]; rfl, HS7.out.ts⟩
                      case measure => simp [intOf]; omega
                    · have h2n : (o.1 != 2) = true := by simp [h2]
                      rw [decide_eq_false h2] at hext
                      have HE := Lib.hid hext
                      clear hv hext h2
                      go_wp2
                      go_quiet (fail)
                      go_wp2
                      go_roundw
                      case rel => exact ⟨r + 1, by omega, by go_num, by rw [HE.out]; rfl, HY.out.later (below_drewN (Below.refl _ _) _)⟩
                      case measure => simp [intOf]; omega
                · obtain rfl : r = l.length := by omega
                  rcases hv : okB p b now l l.length k with _ | _
                  · rw [hv] at HFS
                    clear hv
                    go_wp2
                    go_roundw
                    case rel => exact ⟨k + 1, by omega, by go_num, by rw [HFS.out]; simp, HY.out⟩
                    case measure => simp [intOf]; omega
                  · rw [hv] at HFS
                    clear hv
                    go_wp2
                    go_roundw
                    case rel => exact ⟨k + 1, by omega, by go_num, by rw [HFS.out, List.length_append]; go_num, HY.out⟩
                    case measure => simp [intOf]; omega
            · obtain rfl : k = l.length := by omega
              obtain ⟨m, f, hmj, hiz, hsn⟩ := HX.out.seen
              have hlen := hiz.len MTii
              rw [Nat.min_eq_right (by have := HJ.out; omega), HBB.out, bests_eq] at hlen
              have hbx := HX.out.below
              have HBX := Lib.hid hbx
              clear hiz hsn hbx
              go_wp2
              go_ret
              exact ⟨by simp, HBX.out⟩
theorem victimTies_true (p : Int) (A : Option Addr) (len c : Nat) (b now tie : Int) (w : World) (hp : (Lit.int .u8 p).wf = true)
    (h : len ≤ maxLen ∧ ∀ i, i < len → ∃ x, A = some x ∧ ∃ (c0 : Int) (c1 : Int) (c2 : Int), w.cell? (x.add (i * 3 + 0)) = some (.int .i64 c0) ∧ w.cell? (x.add (i * 3 + 1)) = some (.int .i64 c1) ∧ w.cell? (x.add (i * 3 + 2)) = some (.int .u64 c2) ∧
      (Lit.int .i64 c0).wf = true ∧ (Lit.int .i64 c1).wf = true ∧ (Lit.int .u64 c2).wf = true)
    (hb : (Lit.int .u8 b).wf = true) (hn : (Lit.int .u64 now).wf = true) (ht : (Lit.int .u8 tie).wf = true) :
    Calls Try.prog 5 #[.int .u8 p, .slice A len c, .int .u8 b, .int .u64 now, .int .u8 tie] w fun e w' => e = .returned (.bool true) ∧ Below w.heap.size w w' := by
  obtain ⟨l, rfl, ra, hwf⟩ := argL_of h
  obtain ⟨b, rfl⟩ := Int.eq_ofNat_of_zero_le (u8_in hb).1
  obtain ⟨tie, rfl⟩ := Int.eq_ofNat_of_zero_le (u8_in ht).1
  have h1 := u8_in hp
  have h2 := (u8_in hb).2
  have h3 := (u8_in ht).2
  exact ties_walk p A c b tie now l w (by omega) (by omega) (by omega) (by omega) ra hwf (by have := h.1; unfold maxLen at this; omega) (u64_in' hn).1 (u64_in' hn).2
end Go.Proofs.Ytlkfinkgekkcfaa
