/- The walk of VictimChooses. No further condition. -/
import Derived.Test.YtlkfinkgekkcfaaVc3
import Derived.Test.YtlkfinkgekkcfaaVpl
namespace Go.Proofs.Ytlkfinkgekkcfaa
open Go.RowKit

/-! ### a slice of segments that came in -/
theorem exists_list {α : Type} (P : Nat → α → Prop) : ∀ n, (∀ i, i < n → ∃ v, P i v) → ∃ l : List α, l.length = n ∧ ∀ i v, l[i]? = some v → P i v := by
  intro n
  induction n with
  | zero => intro _; exact ⟨[], rfl, fun i v h => by simp at h⟩
  | succ n ih =>
    intro h
    obtain ⟨l, hl, hP⟩ := ih fun i hi => h i (by omega)
    obtain ⟨v, hv⟩ := h n (by omega)
    refine ⟨l ++ [v], by simp [hl], fun i u hu => ?_⟩
    rcases Nat.lt_or_ge i n with h1 | h1
    · rw [List.getElem?_append_left (by omega)] at hu
      exact hP i u hu
    · have e : i = n := by
        have := (List.getElem?_eq_some_iff.1 hu).1
        simp at this
        omega
      subst e
      rw [List.getElem?_append_right (by omega)] at hu
      simp [hl] at hu
      subst hu
      exact hv
theorem add_field (x : Addr) (i j : Nat) (hj : 0 < j) : x.add (i + j) = ⟨(x.add i).block, (x.add i).off + j, none⟩ := by
  rw [← add_of_add]
  generalize x.add i = y
  unfold Addr.add
  rw [if_neg (by omega)]
/-- The slice at A holds these segments. -/
def ArgL (w : World) (A : Option Addr) (l : List Sg) : Prop := ∀ i s, l[i]? = some s → ∃ x, A = some x ∧ w.cell? (x.add (i * 3)) = some (.int .i64 s.1) ∧
  w.cell? ⟨(x.add (i * 3)).block, (x.add (i * 3)).off + 1, none⟩ = some (.int .i64 s.2.1) ∧ w.cell? ⟨(x.add (i * 3)).block, (x.add (i * 3)).off + 2, none⟩ = some (.int .u64 s.2.2)
theorem ArgL.below {w w' : World} {A : Option Addr} {l : List Sg} (h : ArgL w A l) (hb : Below w.heap.size w w') : ArgL w' A l := by
  intro i s hi
  obtain ⟨x, e, c0, c1, c2⟩ := h i s hi
  exact ⟨x, e, (hb.cell (World.block_lt_of_cell? w _ c0)).trans c0, (hb.cell (World.block_lt_of_cell? w _ c1)).trans c1, (hb.cell (World.block_lt_of_cell? w _ c2)).trans c2⟩
theorem argL_of {w : World} {A : Option Addr} {len : Nat}
    (h : len ≤ maxLen ∧ ∀ i, i < len → ∃ x, A = some x ∧ ∃ (c0 : Int) (c1 : Int) (c2 : Int), w.cell? (x.add (i * 3 + 0)) = some (.int .i64 c0) ∧ w.cell? (x.add (i * 3 + 1)) = some (.int .i64 c1) ∧ w.cell? (x.add (i * 3 + 2)) = some (.int .u64 c2) ∧
      (Lit.int .i64 c0).wf = true ∧ (Lit.int .i64 c1).wf = true ∧ (Lit.int .u64 c2).wf = true) :
    ∃ l : List Sg, l.length = len ∧ ArgL w A l ∧ ∀ s ∈ l, Wf s := by
  obtain ⟨l, hl, hP⟩ := exists_list (fun i (s : Sg) => Wf s ∧ ∃ x, A = some x ∧ w.cell? (x.add (i * 3)) = some (.int .i64 s.1) ∧ w.cell? ⟨(x.add (i * 3)).block, (x.add (i * 3)).off + 1, none⟩ = some (.int .i64 s.2.1) ∧ w.cell? ⟨(x.add (i * 3)).block, (x.add (i * 3)).off + 2, none⟩ = some (.int .u64 s.2.2)) len (by
    intro i hi
    obtain ⟨x, hA, c0, c1, c2, h0, h1, h2, w0, w1, w2⟩ := h.2 i hi
    exact ⟨(c0, c1, c2), u64_in' w2, x, hA, h0, by rw [← add_field _ _ _ (by decide)]; exact h1, by rw [← add_field _ _ _ (by decide)]; exact h2⟩)
  refine ⟨l, hl, fun i s hi => (hP i s hi).2, fun s hs => ?_⟩
  obtain ⟨i, hi⟩ := List.getElem?_of_mem hs
  exact (hP i s hi).1

/-! ### a table filled from it -/
def part (l : List Sg) (k : Nat) : List Sg := l.take k ++ List.replicate (l.length - k) (0, 0, 0)
theorem part_len (l : List Sg) (k : Nat) (h : k ≤ l.length) : (part l k).length = l.length := by unfold part; simp; omega
theorem part_zero (l : List Sg) : part l 0 = List.replicate l.length (0, 0, 0) := by simp [part]
theorem part_all (l : List Sg) : part l l.length = l := by simp [part]
theorem part_step (l : List Sg) (k : Nat) (s : Sg) (h : l[k]? = some s) : upd (part l k) k (fun _ => s) = part l (k + 1) := by
  obtain ⟨hk, rfl⟩ := List.getElem?_eq_some_iff.1 h
  have hr : l.length - k = (l.length - (k + 1)) + 1 := by omega
  have h0 : (part l k)[k]? = some (0, 0, 0) := by
    unfold part
    rw [List.getElem?_append_right (by simp; omega), List.getElem?_replicate, if_pos (by simp; omega)]
  rw [upd_yes _ h0]
  unfold part
  rw [List.take_succ_eq_append_getElem hk, List.set_append_right _ _ (by simp; omega), hr, List.replicate_succ]
  have e : k - (l.take k).length = 0 := by simp; omega
  rw [e]
  simp only [List.set_cons_zero, List.append_assoc, List.cons_append, List.nil_append]
theorem sgD_of {l : List Sg} {i : Nat} {s : Sg} (h : l[i]? = some s) : sgD l i = s := by unfold sgD; rw [List.getD_eq_getElem?_getD, h]; rfl

/-- What holds behind the filling. -/
structure VS (w0 W : World) (g h : Nat) (l : List Sg) (bv : Value) (best : List Nat) : Prop where
  below : Below w0.heap.size w0 W
  tab : Tab W g h l
  own : W.ownsRow w0.heap.size 3 1 bv best.length (intsOf best)
theorem VS.later {w0 W W' : World} {g h : Nat} {l : List Sg} {bv : Value} {best : List Nat} (k : VS w0 W g h l bv best) (hb : Below W.heap.size W W') : VS w0 W' g h l bv best :=
  ⟨k.below.trans (hb.mono k.below.size), k.tab.later hb, ownsRow_later k.own hb⟩
theorem VS.app {w0 W W' : World} {g h : Nat} {l : List Sg} {bv bv' : Value} {best : List Nat} {i : Nat} (k : VS w0 W g h l bv best) (hg : W.grownBy W' bv.ownBlock)
    (ho : W'.ownsRow w0.heap.size 3 1 bv' (best.length + 1) (intsOf best ++ [.int .i64 (i : Int)])) : VS w0 W' g h l bv' (best ++ [i]) := by
  have f := Fr.of_grown hg
  refine ⟨k.below.grown hg k.below.size fun b hb => (k.own.lt b hb).1, k.tab.fr f (fun e => own_blk_ne k.own k.tab.own (by decide) e) (fun e => own_blk_ne k.own k.tab.row (by decide) e), by simpa [intsOf] using ho⟩
theorem filter_snoc (f : Nat → Bool) (k : Nat) : (List.range (k + 1)).filter f = (List.range k).filter f ++ if f k then [k] else [] := by
  rw [List.range_succ, List.filter_append]
  cases h : f k <;> simp [h]
theorem filter_len (f : Nat → Bool) (k : Nat) : ((List.range k).filter f).length ≤ k := by
  have := List.length_filter_le f (List.range k)
  simpa using this

set_option maxHeartbeats 6400000 in
theorem chooses_walk (p b : Nat) (A : Option Addr) (c : Nat) (now tie : Int) (l : List Sg) (w : World) (hp : p ≤ 255) (hb : b ≤ 255) (ra : ArgL w A l) (hwf : ∀ s ∈ l, Wf s) (hm : l.length ≤ 9223372036854775807) (kn : 0 ≤ now) (kn2 : now ≤ 18446744073709551615) :
    Calls Try.prog 7 #[.int .u8 p, .slice A l.length c, .int .u8 b, .int .u64 now, .int .i64 tie] w fun e w' => e = .returned (.bool true) ∧ Below w.heap.size w w' := by
  have ha := awake_ok w
  by_cases hlong : 20 < l.length
  · go_enter Try.func7, Try.ntmps7
    go_wp2_with (go_at_call 8; refine ha.mono ?_; rintro e w1 ⟨rfl, hb1⟩)
    go_ret
    exact ⟨rfl, hb1⟩
  obtain ⟨i0, hi0, hz0, hz1, hz2⟩ := info_parts (show (Try.prog.info? 3).map (fun i => (i.zero, i.size, i.bytes)) = some (some (.int .i64 0), 1, 8) by kernel_rfl)
  go_enter Try.func7, Try.ntmps7
  go_wp2_with (first
    | (go_at_call 8; refine ha.mono ?_; rintro e w1 ⟨rfl, hb1⟩)
    | (go_at_call 11; refine (new_ok l.length _ (by omega)).mono ?_; rintro e w2 ⟨rfl, ht2, hb2, hz2'⟩))
  have hB2 := hb1.trans (hb2.mono hb1.size)
  have hwh : w.heap.size ≤ w1.heap.size := hb1.size
  obtain ⟨h, hh⟩ : ∃ h, h = w1.heap.size := ⟨_, rfl⟩
  rw [← hh] at ht2 hwh ⊢
  have HH := Lib.hid hh
  rw [← part_zero] at ht2
  clear hh ha hb1 hb2
  go_loopw [35] (fun i wr => ∃ k : Nat, k ≤ l.length ∧ i = .int .i64 k ∧ Tab wr (h + 1) h (part l k) ∧ Below w.heap.size w wr) (fun i _ => l.length - (intOf i).toNat)
  case atStart => exact ⟨0, by omega, rfl, ht2, hB2⟩
  case round =>
    clear ht2 hB2
    obtain ⟨k, hk, rfl, ht, hB⟩ := hrel
    by_cases hlt : k < l.length
    · obtain ⟨s, hs⟩ : ∃ s, l[k]? = some s := ⟨_, List.getElem?_eq_getElem hlt⟩
      obtain ⟨x, rfl, c0, c1, c2⟩ := ra.below hB k s hs
      have hs1 := fun W ht => set_any (h + 1) h k (part l k) s W ht
      rw [part_step l k s hs] at hs1
      have ht1 := ht.later ((Below.refl wr.heap.size wr).alloc (Nat.le_refl _) (.cells #[.int .i64 s.1, .int .i64 s.2.1, .int .u64 s.2.2] 25))
      have HB1 := Lib.hid (hB.alloc hB.size (.cells #[.int .i64 s.1, .int .i64 s.2.1, .int .u64 s.2.2] 25))
      have hsz := hB.size
      clear ht hB hs ra
      go_wp2_with (go_at_call 12; refine (hs1 _ ht1).mono ?_; rintro e w3 ⟨rfl, hT3⟩)
      go_roundw
      case rel => exact ⟨k + 1, by omega, by go_num, hT3.tab, HB1.out.trans (hT3.fr.toBelow (by simp; omega) fun b hb e => by omega)⟩
      case measure => simp [intOf]; omega
    · obtain rfl : k = l.length := by omega
      rw [part_all] at ht
      have hV : VS w wr (h + 1) h l (.slice none 0 0) [] := ⟨hB, ht, World.ownsRow_nil _ _ _ _⟩
      clear ht hB hk hlt
      go_wp2
      go_loopw [15, 47] (fun bv i wq => ∃ k : Nat, k ≤ l.length ∧ i = .int .i64 k ∧ VS w wq (h + 1) h l bv ((List.range k).filter (okB ((p : Int) % 3) b now l l.length))) (fun _ i _ => l.length - (intOf i).toNat)
      case atStart => exact ⟨0, by omega, rfl, hV⟩
      case round =>
        clear hV
        obtain ⟨k, hk, rfl, hV⟩ := hrel
        have hfl := filter_len (okB ((p : Int) % 3) b now l l.length) k
        have hfs := filter_snoc (okB ((p : Int) % 3) b now l l.length) k
        by_cases hlt : k < l.length
        · obtain ⟨s, hs⟩ : ∃ s, l[k]? = some s := ⟨_, List.getElem?_eq_getElem hlt⟩
          have hws := hwf s (List.mem_of_getElem? hs)
          obtain ⟨x, rfl, c0, c1, c2⟩ := ra.below hV.below k s hs
          obtain ⟨wq, hwq⟩ : ∃ wq, wq = wr := ⟨_, rfl⟩
          rw [← hwq] at hV c0 c1 c2 ⊢
          have hbx := Blk.new wq 25 #[.int .i64 s.1, .int .i64 s.2.1, .int .u64 s.2.2]
          have hV1 := hV.later ((Below.refl wq.heap.size wq).alloc (Nat.le_refl _) (.cells #[.int .i64 s.1, .int .i64 s.2.1, .int .u64 s.2.2] 25))
          have hok0 : okB ((p : Int) % 3) b now l 0 k = (s.1 == 2) := by
            unfold okB
            rw [sgD_of hs]
            simp only [List.range_zero, List.all_nil, Bool.and_true]
            rfl
          have HS := Lib.hid hs
          have HFS := Lib.hid hfs
          have HO := Lib.hid hok0
          have HWQ := Lib.hid hwq
          generalize hBL : (List.range k).filter (okB ((p : Int) % 3) b now l l.length) = BL at *
          clear hBL hV hs hfs hok0 hwq
          go_wp2
          go_loopw [18, 57] (fun ok m wi => ∃ j : Nat, j ≤ l.length ∧ m = .int .i64 j ∧ ok = .bool (okB ((p : Int) % 3) b now l j k) ∧ VS w wi (h + 1) h l u15 BL ∧ Blk wi wq.heap.size 25 #[.int .i64 s.1, .int .i64 s.2.1, .int .u64 s.2.2]) (fun _ m _ => l.length - (intOf m).toNat)
          case atStart => exact ⟨0, by omega, rfl, by rw [HO.out], hV1, hbx⟩
          case round =>
            clear hV1 hbx
            obtain ⟨j, hj, rfl, rfl, hV, hbx⟩ := hrel
            by_cases hjl : j < l.length
            · obtain ⟨o, ho⟩ : ∃ o, l[j]? = some o := ⟨_, List.getElem?_eq_getElem hjl⟩
              have hwo := hwf o (List.mem_of_getElem? ho)
              obtain ⟨_, e', d0, d1, d2⟩ := ra.below hV.below j o ho
              cases e'
              have hbo := Blk.new wr 25 #[.int .i64 o.1, .int .i64 o.2.1, .int .u64 o.2.2]
              have hV2 := hV.later ((Below.refl wr.heap.size wr).alloc (Nat.le_refl _) (.cells #[.int .i64 o.1, .int .i64 o.2.1, .int .u64 o.2.2] 25))
              have hbx2 := hbx.later ((Below.refl wr.heap.size wr).alloc (Nat.le_refl _) (.cells #[.int .i64 o.1, .int .i64 o.2.1, .int .u64 o.2.2] 25))
              obtain ⟨b0, b1, b2⟩ := hbx2.cells3
              have hext := okB_ext ((p : Int) % 3) b now l j k
              rw [sgD_of ho, sgD_of HS.out] at hext
              have HE := Lib.hid hext
              have HV2 := Lib.hid hV2
              have HBX2 := Lib.hid hbx2
              have hbt := fun W => lbetter_any ((p : Int) % 3) o s b now W hwo hws kn kn2
              have HBT := Lib.hid hbt
              clear hV hbx hbo hV2 hbx2 hext ho hbt ra
              rcases hv : okB ((p : Int) % 3) b now l j k with _ | _
              · rw [hv] at HE
                clear hv
                go_wp2
                go_roundw
                case rel => exact ⟨j + 1, by omega, by go_num, by rw [HE.out]; rfl, HV2.out, HBX2.out⟩
                case measure => simp [intOf]; omega
              · rw [hv] at HE
                clear hv
                by_cases ho2 : o.1 = 2
                · have e1 : (o.1 == 2) = true := by simp [ho2]
                  have e2 : (o.1 != 2) = false := by simp [ho2]
                  have hE2 : okB ((p : Int) % 3) b now l (j + 1) k = !better ((p : Int) % 3) o s b now := by rw [HE.out, decide_eq_true ho2]; simp
                  have HE2 := Lib.hid hE2
                  clear ho2 hE2
                  go_wp2_with (go_at_call 15; refine (HBT.out _).mono ?_; rintro e w5 ⟨rfl, hb5⟩)
                  go_roundw
                  case rel => exact ⟨j + 1, by omega, by go_num, by rw [HE2.out], HV2.out.later hb5, HBX2.out.later hb5⟩
                  case measure => simp [intOf]; omega
                · have e1 : (o.1 == 2) = false := by simp [ho2]
                  have e2 : (o.1 != 2) = true := by simp [ho2]
                  have hE2 : okB ((p : Int) % 3) b now l (j + 1) k = true := by rw [HE.out, decide_eq_false ho2]; simp
                  have HE2 := Lib.hid hE2
                  clear ho2 hE2
                  go_wp2
                  go_roundw
                  case rel => exact ⟨j + 1, by omega, by go_num, by rw [HE2.out], HV2.out, HBX2.out⟩
                  case measure => simp [intOf]; omega
            · obtain rfl : j = l.length := by omega
              have HV := Lib.hid hV
              have HBX := Lib.hid hbx
              have HA := Lib.hid (hV.later ((Below.refl wr.heap.size wr).alloc (Nat.le_refl _) (.cells #[.int .i64 (k : Int)] 3)))
              clear hV hbx ra
              rcases hv : okB ((p : Int) % 3) b now l l.length k with _ | _
              · rw [hv] at HFS
                clear hv
                go_wp2
                go_roundw
                case rel => exact ⟨k + 1, by omega, by go_num, by rw [HFS.out]; simpa using HV.out⟩
                case measure => simp [intOf]; omega
              · rw [hv] at HFS
                clear hv
                go_wp2_with (at_builtin; refine wpList_append_any _ rfl _ _ 43 rfl w.heap.size 3 i0 (.int .i64 0) 1 8 Try.underlying43 hi0 hz0 hz1 hz2 rfl (by decide) u15 BL.length (intsOf BL) rfl HA.out.own (some ⟨wr.heap.size, 0, none⟩) 1 1 [.int .i64 (k : Int)] rfl rfl (Rd.one _ _ _ rfl) (by intro u hu; simp at hu; subst hu; rfl) (by unfold maxLen; omega) (by omega) HA.out.below.size ?_; intro v1 w7 hown1 hg1 hat1)
                go_roundw
                case rel => exact ⟨k + 1, by omega, by go_num, by rw [HFS.out]; exact HA.out.app hg1 (by simpa using hown1)⟩
                case measure => simp [intOf]; omega
        · obtain rfl : k = l.length := by omega
          have hch := fun W ht => choose_ok ((p : Int) % 3) (h + 1) h b now tie l W ht hwf kn kn2
          unfold chosen at hch
          rw [bests_eq] at hch
          have hB := hV.below
          have htb := hV.tab
          generalize hBL : (List.range l.length).filter (okB ((p : Int) % 3) b now l l.length) = BL at *
          clear hBL
          rcases BL with _ | ⟨b1, bs⟩
          · obtain ⟨A1, c1, rfl, -, -⟩ := own_form hV.own
            have hz : ([] : List Nat).length = 0 := rfl
            have HCH := Lib.hid hch
            clear hch hV ra hfs
            go_wp2_with (go_at_call 13; refine (HCH.out _ htb).mono ?_; rintro e w5 ⟨rfl, hb5⟩)
            go_ret
            exact ⟨rfl, hB.trans (hb5.mono hB.size)⟩
          · obtain ⟨gb, c1, cur, rfl, -, -, -, -⟩ := own_block hV.own (by simp)
            obtain ⟨L, hL⟩ : ∃ L, L = (b1 :: bs).length := ⟨_, rfl⟩
            have hL0 : 0 < L := by rw [hL]; simp
            have m0 : 0 ≤ tie % 18446744073709551616 % (L : Int) := Int.emod_nonneg _ (by omega)
            have m1 : tie % 18446744073709551616 % (L : Int) < L := Int.emod_lt_of_pos _ (by omega)
            obtain ⟨r, hr⟩ : ∃ r : Int, r = (((b1 :: bs).getD (tie % 18446744073709551616 % (L : Int)).toNat 0 : Nat) : Int) := ⟨_, rfl⟩
            have hch2 := hch
            rw [← hL, if_neg (by omega), ← hr] at hch2
            obtain ⟨_, e1, c0⟩ := Rd.of_own hV.own (tie % 18446744073709551616 % (L : Int)).toNat (.int .i64 r) (by
              have hj : (tie % 18446744073709551616 % (L : Int)).toNat < (b1 :: bs).length := by rw [← hL]; omega
              unfold intsOf
              rw [List.getElem?_map, List.getElem?_eq_getElem hj, hr, List.getD_eq_getElem?_getD, List.getElem?_eq_getElem hj]
              rfl)
            cases e1
            simp only [add_zero_addr, Nat.zero_add] at c0
            have hw1 : wrap64 ((IntKind.u64.wrap tie).tmod (L : Int)) = tie % 18446744073709551616 % (L : Int) := by
              have e1 : IntKind.u64.wrap tie = tie % 18446744073709551616 := by simp [IntKind.wrap, IntKind.bits, IntKind.signed]
              have e2 : 0 ≤ tie % 18446744073709551616 := by omega
              rw [e1, Int.tmod_eq_emod_of_nonneg e2]
              unfold wrap64
              omega
            rw [← hw1] at c0 m0 m1
            rw [← hL] at hfl ⊢
            have HCH := Lib.hid hch2
            have HL := Lib.hid hL
            have hLl : (L : Int) ≤ l.length := by omega
            have hL1 : ((L : Int) == 0) = false := by simp; omega
            have HR := Lib.hid hr
            clear hch hch2 hV ra hfs hL hw1 hr
            go_wp2_with (go_at_call 13; refine (HCH.out _ htb).mono ?_; rintro e w5 ⟨rfl, hb5⟩)
            go_ret
            exact ⟨by first | rfl | simp, hB.trans (hb5.mono hB.size)⟩
theorem victimChooses_true (p : Int) (A : Option Addr) (len c : Nat) (b now tie : Int) (w : World) (hp : (Lit.int .u8 p).wf = true)
    (h : len ≤ maxLen ∧ ∀ i, i < len → ∃ x, A = some x ∧ ∃ (c0 : Int) (c1 : Int) (c2 : Int), w.cell? (x.add (i * 3 + 0)) = some (.int .i64 c0) ∧ w.cell? (x.add (i * 3 + 1)) = some (.int .i64 c1) ∧ w.cell? (x.add (i * 3 + 2)) = some (.int .u64 c2) ∧
      (Lit.int .i64 c0).wf = true ∧ (Lit.int .i64 c1).wf = true ∧ (Lit.int .u64 c2).wf = true)
    (hb : (Lit.int .u8 b).wf = true) (hn : (Lit.int .u64 now).wf = true) (_ht : (Lit.int .i64 tie).wf = true) :
    Calls Try.prog 7 #[.int .u8 p, .slice A len c, .int .u8 b, .int .u64 now, .int .i64 tie] w fun e w' => e = .returned (.bool true) ∧ Below w.heap.size w w' := by
  obtain ⟨l, rfl, ra, hwf⟩ := argL_of h
  obtain ⟨p, rfl⟩ := Int.eq_ofNat_of_zero_le (u8_in hp).1
  obtain ⟨b, rfl⟩ := Int.eq_ofNat_of_zero_le (u8_in hb).1
  have h1 := (u8_in hp).2
  have h2 := (u8_in hb).2
  exact chooses_walk p b A c now tie l w (by omega) (by omega) ra hwf (by have := h.1; unfold maxLen at this; omega) (u64_in' hn).1 (u64_in' hn).2
end Go.Proofs.Ytlkfinkgekkcfaa
