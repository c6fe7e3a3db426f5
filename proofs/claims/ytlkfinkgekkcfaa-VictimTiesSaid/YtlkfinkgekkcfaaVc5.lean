/- The walk of VictimEmpty. No further condition. -/
import Derived.Test.YtlkfinkgekkcfaaVc4
namespace Go.Proofs.Ytlkfinkgekkcfaa
open Go.RowKit

theorem chosen_mem {p blocks now tie : Int} {l : List Sg} (h : bests p blocks now l l.length ≠ []) : ∃ i : Nat, chosen p blocks now tie l = i ∧ i < l.length ∧ okB p blocks now l l.length i = true := by
  unfold chosen
  generalize hB : bests p blocks now l l.length = B at *
  have hL : 0 < B.length := by
    rcases B with _ | ⟨a, B⟩
    · exact absurd rfl h
    · simp
  rw [if_neg (by omega)]
  have m0 : 0 ≤ tie % 18446744073709551616 % (B.length : Int) := Int.emod_nonneg _ (by omega)
  have m1 : tie % 18446744073709551616 % (B.length : Int) < B.length := Int.emod_lt_of_pos _ (by omega)
  have hj : (tie % 18446744073709551616 % (B.length : Int)).toNat < B.length := by omega
  refine ⟨_, rfl, ?_⟩
  rw [List.getD_eq_getElem?_getD, List.getElem?_eq_getElem hj]
  have hm : B[(tie % 18446744073709551616 % (B.length : Int)).toNat] ∈ bests p blocks now l l.length := by rw [hB]; exact List.getElem_mem hj
  rw [bests_eq] at hm
  have := List.mem_filter.1 hm
  exact ⟨List.mem_range.1 this.1, this.2⟩
/-- The law's own list: what lives isn't below 0. -/
def raised (l : List Sg) : List Sg := l.map fun s => (s.1, mxI s.2.1 0, s.2.2)
theorem raised_get {l : List Sg} {k : Nat} {s : Sg} (h : l[k]? = some s) : (raised l)[k]? = some (s.1, mxI s.2.1 0, s.2.2) := by unfold raised; rw [List.getElem?_map, h]; rfl
theorem raised_len (l : List Sg) : (raised l).length = l.length := by simp [raised]
theorem mx0 (a : Int) : 0 ≤ mxI a 0 := by unfold mxI; split <;> omega
theorem chosen_dead {blocks now tie : Int} {l : List Sg} (h : (raised l).any isDead = true) : ∃ (i : Nat) (s : Sg), chosen 0 blocks now tie (raised l) = i ∧ (raised l)[i]? = some s ∧ s.1 = 2 ∧ s.2.1 = 0 := by
  obtain ⟨d, hd, hdd⟩ := List.any_eq_true.1 h
  obtain ⟨j, hj⟩ := List.getElem?_of_mem hd
  have hjl := (List.getElem?_eq_some_iff.1 hj).1
  simp only [isDead, Bool.and_eq_true, beq_iff_eq] at hdd
  have hne : bests 0 blocks now (raised l) (raised l).length ≠ [] := by
    intro he
    obtain ⟨i, hi, ho⟩ := okB_some 0 blocks now (raised l) (raised l).length ⟨j, hjl, by rw [sgD_of hj]; exact hdd.1⟩
    have : i ∈ bests 0 blocks now (raised l) (raised l).length := by rw [bests_eq]; exact List.mem_filter.2 ⟨List.mem_range.2 hi, ho⟩
    rw [he] at this
    simp at this
  obtain ⟨i, hc, hi, ho⟩ := chosen_mem (tie := tie) hne
  obtain ⟨o1, o2⟩ := okB_iff.1 ho
  obtain ⟨s, hs⟩ : ∃ s, (raised l)[i]? = some s := ⟨_, List.getElem?_eq_getElem hi⟩
  have h3 := o2 j hjl (by rw [sgD_of hj]; exact hdd.1)
  rw [sgD_of hj, sgD_of hs] at h3
  rw [sgD_of hs] at o1
  unfold better at h3
  rw [if_neg (by decide)] at h3
  simp at h3
  refine ⟨i, s, hc, hs, o1, ?_⟩
  have h4 : 0 ≤ s.2.1 := by
    obtain ⟨t, _, rfl⟩ := List.mem_map.1 (List.mem_of_getElem? hs)
    exact mx0 _
  omega
theorem any_snoc {l : List Sg} {k : Nat} {s : Sg} (f : Sg → Bool) (h : l[k]? = some s) : (l.take (k + 1)).any f = ((l.take k).any f || f s) := by
  rw [take_snoc_of h, List.any_append]
  simp

attribute [local go_sem] go_max2 go_min2 go_max_two go_min_two
set_option maxHeartbeats 6400000 in
theorem empty_walk (b : Nat) (A : Option Addr) (c : Nat) (now tie : Int) (l : List Sg) (w : World) (hb : b ≤ 255) (ra : ArgL w A l) (hwf : ∀ s ∈ l, Wf s) (hm : l.length ≤ 9223372036854775807) (kn : 0 ≤ now) (kn2 : now ≤ 18446744073709551615) :
    Calls Try.prog 4 #[.slice A l.length c, .int .u8 b, .int .u64 now, .int .i64 tie] w fun e w' => e = .returned (.bool true) ∧ Below w.heap.size w w' := by
  have ha := awake_ok w
  by_cases hlong : 20 < l.length
  · go_enter Try.func4, Try.ntmps4
    go_wp2_with (go_at_call 8; refine ha.mono ?_; rintro e w1 ⟨rfl, hb1⟩)
    go_ret
    exact ⟨rfl, hb1⟩
  go_enter Try.func4, Try.ntmps4
  go_wp2_with (first
    | (go_at_call 8; refine ha.mono ?_; rintro e w1 ⟨rfl, hb1⟩)
    | (go_at_call 11; refine (new_ok l.length _ (by omega)).mono ?_; rintro e w2 ⟨rfl, ht2, hb2, hz2'⟩))
  have hB2 := hb1.trans (hb2.mono hb1.size)
  have hwh : w.heap.size ≤ w1.heap.size := hb1.size
  obtain ⟨h, hh⟩ : ∃ h, h = w1.heap.size := ⟨_, rfl⟩
  rw [← hh] at ht2 hwh ⊢
  have HH := Lib.hid hh
  rw [← raised_len l, ← part_zero] at ht2
  clear hh ha hb1 hb2
  go_loopw [10, 24] (fun so i wr => ∃ k : Nat, k ≤ l.length ∧ i = .int .i64 k ∧ so = .bool (((raised l).take k).any isDead) ∧ Tab wr (h + 1) h (part (raised l) k) ∧ Below w.heap.size w wr) (fun _ i _ => l.length - (intOf i).toNat)
  case atStart => exact ⟨0, by omega, rfl, by simp, ht2, hB2⟩
  case round =>
    clear ht2 hB2
    obtain ⟨k, hk, rfl, rfl, ht, hB⟩ := hrel
    by_cases hlt : k < l.length
    · obtain ⟨s, hs⟩ : ∃ s, l[k]? = some s := ⟨_, List.getElem?_eq_getElem hlt⟩
      obtain ⟨x, rfl, c0, c1, c2⟩ := ra.below hB k s hs
      have hrs := raised_get hs
      have hs1 := fun W ht => set_any (h + 1) h k (part (raised l) k) (s.1, mxI s.2.1 0, s.2.2) W ht
      rw [part_step _ k _ hrs] at hs1
      have ht1 := ht.later ((Below.refl wr.heap.size wr).alloc (Nat.le_refl _) (.cells #[.int .i64 s.1, .int .i64 (mxI s.2.1 0), .int .u64 s.2.2] 25))
      have HB1 := Lib.hid (hB.alloc hB.size (.cells #[.int .i64 s.1, .int .i64 (mxI s.2.1 0), .int .u64 s.2.2] 25))
      have hsz := hB.size
      have HA := Lib.hid (any_snoc isDead hrs)
      have HT1 := Lib.hid ht1
      have HS1 := Lib.hid hs1
      clear ht hB hs hrs ra ht1 hs1
      generalize ((raised l).take k).any isDead = SO at *
      generalize hmx : mxI s.2.1 0 = M at *
      have e1 : ∀ q, isDead (s.1, M, q) = (s.1 == 2 && M == 0) := fun q => rfl
      rw [e1] at HA
      clear e1
      rcases SO with _ | _ <;> rcases Bool.eq_false_or_eq_true (s.1 == 2) with h2 | h2 <;> rcases Bool.eq_false_or_eq_true (M == 0) with h3 | h3
      all_goals
        rw [h2, h3] at HA
        go_wp2_with (go_at_call 12; refine (HS1.out _ HT1.out).mono ?_; rintro e w3 ⟨rfl, hT3⟩)
        go_roundw
        case rel => exact ⟨k + 1, by omega, by go_num, by rw [HA.out]; rfl, hT3.tab, HB1.out.trans (hT3.fr.toBelow (by simp; omega) fun b hb e => by omega)⟩
        case measure => simp [intOf]; omega
    · obtain rfl : k = l.length := by omega
      have hwr : ∀ s ∈ raised l, Wf s := by
        intro s hs
        obtain ⟨t, ht, rfl⟩ := List.mem_map.1 hs
        exact hwf t ht
      rw [← raised_len l, part_all] at ht
      rw [← raised_len l, List.take_length, raised_len]
      have hch := fun W ht => choose_ok 0 (h + 1) h b now tie (raised l) W ht hwr kn kn2
      have HCH := Lib.hid hch
      have HT := Lib.hid ht
      have HB := Lib.hid hB
      clear hch ht hB ra hwr hwf
      rcases hso : (raised l).any isDead with _ | _
      · clear hso
        go_wp2_with (go_at_call 13; refine (HCH.out _ HT.out).mono ?_; rintro e w5 ⟨rfl, hb5⟩)
        go_ret
        exact ⟨rfl, HB.out.trans (hb5.mono HB.out.size)⟩
      · obtain ⟨i, s, hc, hs, s1, s2⟩ := chosen_dead (blocks := b) (now := now) (tie := tie) hso
        rw [hc] at HCH
        have hat := fun W ht => at_yes (h + 1) h i (raised l) s W ht hs
        rw [s1, s2] at hat
        have HAT := Lib.hid hat
        clear hso hc hs s1 s2 hat
        have hf0 : ∀ w : World, (Instr.field 25 (.agg #[.int .i64 2, .int .i64 0, .int .u64 s.2.2]) 0).run Try.prog w = .ok (.int .i64 2) w := fun _ => by kernel_rfl
        have hf1 : ∀ w : World, (Instr.field 25 (.agg #[.int .i64 2, .int .i64 0, .int .u64 s.2.2]) 1).run Try.prog w = .ok (.int .i64 0) w := fun _ => by kernel_rfl
        go_wp2_with (first
          | (go_at_call 13; refine (HCH.out _ HT.out).mono ?_; rintro e w5 ⟨rfl, hb5⟩; have ht5 := HT.out.later hb5; have hB5 := HB.out.trans (hb5.mono HB.out.size))
          | (go_at_call 14; refine (HAT.out _ (by assumption)).mono ?_; rintro e w6 ⟨rfl, hb6⟩; have ht6 : Tab w6 (h + 1) h (raised l) := Tab.later (by assumption) hb6; have hB6 : Below w.heap.size w w6 := Below.trans (by assumption) (hb6.mono (Below.size (by assumption)))))
        go_ret
        exact ⟨by first | rfl | simp, by assumption⟩
theorem victimEmpty_true (A : Option Addr) (len c : Nat) (b now tie : Int) (w : World)
    (h : len ≤ maxLen ∧ ∀ i, i < len → ∃ x, A = some x ∧ ∃ (c0 : Int) (c1 : Int) (c2 : Int), w.cell? (x.add (i * 3 + 0)) = some (.int .i64 c0) ∧ w.cell? (x.add (i * 3 + 1)) = some (.int .i64 c1) ∧ w.cell? (x.add (i * 3 + 2)) = some (.int .u64 c2) ∧
      (Lit.int .i64 c0).wf = true ∧ (Lit.int .i64 c1).wf = true ∧ (Lit.int .u64 c2).wf = true)
    (hb : (Lit.int .u8 b).wf = true) (hn : (Lit.int .u64 now).wf = true) (_ht : (Lit.int .i64 tie).wf = true) :
    Calls Try.prog 4 #[.slice A len c, .int .u8 b, .int .u64 now, .int .i64 tie] w fun e w' => e = .returned (.bool true) ∧ Below w.heap.size w w' := by
  obtain ⟨l, rfl, ra, hwf⟩ := argL_of h
  obtain ⟨b, rfl⟩ := Int.eq_ofNat_of_zero_le (u8_in hb).1
  have h2 := (u8_in hb).2
  exact empty_walk b A c now tie l w (by omega) ra hwf (by have := h.1; unfold maxLen at this; omega) (u64_in' hn).1 (u64_in' hn).2
end Go.Proofs.Ytlkfinkgekkcfaa
