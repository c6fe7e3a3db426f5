/- The walks of chapter 13's Awake and LmapWithin. No further condition. -/
import Derived.Test.YtmidbllmdpjgdaaLm3
import Derived.Test.YtmidbllmdpjgdaaEqi
namespace Go.Proofs.Ytmidbllmdpjgdaa
open Go.RowKit

theorem Lm.below {w w' : World} {B g h n np : Nat} {pg : Nat → Option Nat} {f : Nat → Int} (k : Lm w B g h n np pg f) (q : Fr (LmS g h pg) w w') : Below B w w' :=
  q.toBelow (Nat.le_trans k.bg (Nat.le_of_lt k.own.lt)) fun b hb hs => by
    rcases hs with rfl | rfl | ⟨p, e⟩
    · have := k.bg; omega
    · have := k.bh; omega
    · have := k.bp p b e; omega
theorem Lm.lt {w : World} {B g h n np : Nat} {pg : Nat → Option Nat} {f : Nat → Int} (k : Lm w B g h n np pg f) : B ≤ w.heap.size := Nat.le_trans k.bg (Nat.le_of_lt k.own.lt)
theorem set_b (B g rb n np : Nat) (pg : Nat → Option Nat) (f : Nat → Int) (x pl : Int) (w : World) (k : Lm w B g rb n np pg f) (p0 : -70000 ≤ pl) (p1 : pl < 70000) :
    Calls Try.prog 9 #[.pointer (some ⟨g, 0, none⟩), .int .i64 x, .int .i64 pl] w fun e w' => e = .returned (.int .i64 (gv n f x)) ∧ ∃ pg', Lm w' B g rb n np pg' (put n f x pl) ∧ Pgs n pg pg' x pl ∧ Below B w w' := by
  refine (set_ok B g rb n np pg f x pl w k p0 p1).mono ?_
  rintro e w' ⟨rfl, pg', h1, h2, h3⟩
  exact ⟨rfl, pg', h1, h2, k.below h3⟩
set_option maxHeartbeats 3200000 in
theorem awake_ok (w : World) : Calls Try.prog 7 #[] w fun e w' => e = .returned (.bool true) ∧ Below w.heap.size w w' := by
  have HN := Lib.hid (lnew_ok 20 w (by decide))
  go_enter Try.func7, Try.ntmps7
  go_wp2_with (first
    | (go_at_call 8; refine HN.out.mono ?_; rintro e w1 ⟨np, rfl, hk, hb⟩; have hnp : np = 2 := (by have h1 := hk.np1; have h2 := hk.np2; omega); subst hnp; have HB1 := Lib.hid hb; have HK1 := Lib.hid hk; clear hk hb)
    | (go_at_call 9; refine (set_b w.heap.size _ _ 20 2 _ _ 17 5 _ HK1.out (by decide) (by decide)).mono ?_; rintro e w2 ⟨rfl, pg', hk, hp, hb⟩; have HB2 := Lib.hid (HB1.out.trans hb); have HK2 := Lib.hid hk; have HPG : Hid ((pgs pg' 2 : Int) = 1) := Lib.hid (by have h0 := hp 0; have h1 := hp 1; simp at h0 h1; simp [pgs, h0, h1]); clear hk hb hp)
    | (go_at_call 16; refine (pages_ok w.heap.size _ _ 20 2 _ _ _ HK2.out).mono ?_; rintro e w3 ⟨rfl, rfl⟩; rw [HPG.out])
    | (go_at_call 12; refine (within_ok w.heap.size _ _ 20 2 _ _ 5 6 _ HK2.out).mono ?_; rintro e w4 ⟨v, rfl, hown, hb⟩; rw [show wth 5 6 (put 20 (fun _ => 0) 17 5) 20 = [17] from by decide] at hown; obtain ⟨A, c, rfl, -, hrd⟩ := own_form hown; have HB4 := Lib.hid ((HB2.out.trans (hb.mono HB2.out.size)).alloc (Nat.le_trans HB2.out.size hb.size) (.cells #[.int .i64 17] 3)); have HR := Lib.hid (hrd.alloc (.cells #[.int .i64 17] 3)); clear hown hb hrd)
    | (go_at_call 11; refine (equali_ok A (some ⟨w4.heap.size, 0, none⟩) c 1 [17] [17] _ HR.out (Rd.blk_all (Blk.new_ _ _ _ rfl)) (by decide)).mono ?_; rintro e w5 ⟨rfl, n5, rfl⟩; have hd : decide (([17] : List Int) = [17]) = true := rfl))
  go_ret
  exact ⟨rfl, below_drewN HB4.out n5⟩
/-! ### what is asked -/
structure Ac where
  lba : Int
  place : Int
def AcAt (w : World) (p : Addr) (s : Ac) : Prop := w.cell? p = some (.int .i8 s.lba) ∧ w.cell? ⟨p.block, p.off + 1, none⟩ = some (.int .i16 s.place) ∧ (-128 ≤ s.lba ∧ s.lba ≤ 127) ∧ (-32768 ≤ s.place ∧ s.place ≤ 32767)
def ArgA (w : World) (A : Option Addr) (l : List Ac) : Prop := ∀ i s, l[i]? = some s → ∃ x, A = some x ∧ AcAt w (x.add (i * 2)) s
theorem ArgA.later {w w' : World} {A : Option Addr} {l : List Ac} (h : ArgA w A l) (hb : Below w.heap.size w w') : ArgA w' A l := by
  intro i s hi
  obtain ⟨x, e, c0, c1, r⟩ := h i s hi
  exact ⟨x, e, (hb.cell (World.block_lt_of_cell? w _ c0)).trans c0, (hb.cell (World.block_lt_of_cell? w _ c1)).trans c1, r⟩
theorem argA_of {w : World} {A : Option Addr} {len : Nat}
    (h : len ≤ maxLen ∧ ∀ i, i < len → ∃ x, A = some x ∧ ∃ (c0 c1 : Int), w.cell? (x.add (i * 2 + 0)) = some (.int .i8 c0) ∧ w.cell? (x.add (i * 2 + 1)) = some (.int .i16 c1) ∧
      (Lit.int .i8 c0).wf = true ∧ (Lit.int .i16 c1).wf = true) :
    ∃ l : List Ac, l.length = len ∧ ArgA w A l := by
  obtain ⟨l, hl, hP⟩ := exists_list (fun i (s : Ac) => ∃ x, A = some x ∧ AcAt w (x.add (i * 2)) s) len (by
    intro i hi
    obtain ⟨x, hA, c0, c1, h0, h1, w0, w1⟩ := h.2 i hi
    exact ⟨⟨c0, c1⟩, x, hA, h0, by rw [← add_field _ _ _ (by decide)]; exact h1, i8_in_ w0, i16_in_ w1⟩)
  exact ⟨l, hl, hP⟩
set_option maxRecDepth 100000 in
set_option maxHeartbeats 6400000 in
theorem within_walk (z : Int) (A : Option Addr) (c : Nat) (l : List Ac) (a b : Int) (w : World) (ra : ArgA w A l) (z0 : 0 ≤ z) (z1 : z < 256) (a0 : -32768 ≤ a) (a1 : a ≤ 32767) (b0 : -32768 ≤ b) (b1 : b ≤ 32767) :
    Calls Try.prog 3 #[.int .u8 z, .slice A l.length c, .int .i16 a, .int .i16 b] w fun e w' => e = .returned (.bool true) ∧ Below w.heap.size w w' := by
  obtain ⟨i0, hi0, hz0, hz1, hz2⟩ := info_parts (show (Try.prog.info? 3).map (fun i => (i.zero, i.size, i.bytes)) = some (some (.int .i64 0), 1, 8) by kernel_rfl)
  have ha := awake_ok w
  by_cases hlong : 80 < l.length
  · go_enter Try.func3, Try.ntmps3
    go_wp2_with (go_at_call 7; refine ha.mono ?_; rintro e w1 ⟨rfl, hb1⟩)
    go_ret
    exact ⟨rfl, hb1⟩
  have hfew : l.length ≤ 80 := by omega
  obtain ⟨n, hn⟩ : ∃ n : Nat, z % 70 = n := Int.eq_ofNat_of_zero_le (by omega)
  have hn70 : n < 70 := by omega
  have HAW := Lib.hid ha
  have HRA := Lib.hid ra
  have HN := Lib.hid hn
  clear hlong ha ra
  go_enter Try.func3, Try.ntmps3
  go_wp2_with (first
    | (go_at_call 7; refine HAW.out.mono ?_; rintro e w1 ⟨rfl, hb1⟩; have HB1 := Lib.hid hb1; have HR1 := Lib.hid (HRA.out.later hb1); clear hb1)
    | (go_at_call 8; refine (lnew_ok n _ (by omega)).mono ?_; rintro e w2 ⟨np, rfl, hk, hb⟩; have HB2 := Lib.hid (HB1.out.trans (hb.mono HB1.out.size)); have HR2 := Lib.hid (HR1.out.later hb); have HK2 := Lib.hid hk; have hB := HB1.out.size; clear hk hb))
  clear hn HN
  go_loopw [12, 28] (fun _ i wr => ∃ (k : Nat) (pg : Nat → Option Nat) (f : Nat → Int), k ≤ l.length ∧ i = .int .i64 k ∧ Lm wr w1.heap.size (w1.heap.size + 1) w1.heap.size n np pg f ∧ Below w.heap.size w wr) (fun _ i _ => l.length - (intOf i).toNat)
  case atStart => exact ⟨0, _, _, by omega, rfl, HK2.out, HB2.out⟩
  case round =>
    obtain ⟨k, pg, f, hk, rfl, hkm, hBr⟩ := hrel
    have hbs := hBr.size
    have HBr := Lib.hid hBr
    by_cases hlt : k < l.length
    · obtain ⟨s, hs⟩ : ∃ s, l[k]? = some s := ⟨_, List.getElem?_eq_getElem hlt⟩
      obtain ⟨x, rfl, c0, c1, q0, q1⟩ := HRA.out.later hBr k s hs
      have g1 : (k : Int) < l.length := by omega
      have HKM := Lib.hid (hkm.later ((Below.refl _ _).alloc (Nat.le_refl _) (.cells #[.int .i8 s.lba, .int .i16 s.place] 29)))
      have HBA := Lib.hid (hBr.alloc hbs (.cells #[.int .i8 s.lba, .int .i16 s.place] 29))
      clear hs hkm hBr
      go_wp2_with (go_at_call 9; refine (set_b w1.heap.size _ _ n np pg f s.lba s.place _ HKM.out (by omega) (by omega)).mono ?_; rintro e w3 ⟨rfl, pg', hk3, -, hb3⟩; have HK3 := Lib.hid hk3; have HB3 := Lib.hid (HBA.out.trans (hb3.mono hB)); clear hk3 hb3)
      go_roundw
      case rel => exact ⟨k + 1, pg', _, by omega, by go_num, HK3.out, HB3.out⟩
      case measure => simp [intOf]; omega
    · obtain rfl : k = l.length := by omega
      have HKM := Lib.hid hkm
      clear hkm hBr
      obtain ⟨wo, hwo⟩ : ∃ wo, wo = wr := ⟨wr, rfl⟩
      subst hwo
      go_wp2
      go_loopw [13, 14, 15, 42] (fun v _ _ i wi => ∃ j : Nat, j ≤ n ∧ i = .int .i64 j ∧ wi.ownsRow wo.heap.size 3 1 v (wth a b f j).length ((wth a b f j).map (.int .i64)) ∧ Below wo.heap.size wo wi) (fun _ _ _ i _ => n - (intOf i).toNat)
      case atStart => exact ⟨0, by omega, rfl, World.ownsRow_nil _ _ _ _, Below.refl _ _⟩
      case round =>
        obtain ⟨j, hj, rfl, hown, hB⟩ := hrel
        have hbi := hB.size
        have HB := Lib.hid hB
        have HO := Lib.hid hown
        have HKi := Lib.hid (HKM.out.later hB)
        by_cases hlt : j < n
        · have HG := Lib.hid (get_ok w1.heap.size (w1.heap.size + 1) w1.heap.size n np pg f j wr HKi.out)
          rw [gv_in hlt] at HG
          have g1 : (j : Int) < n := by omega
          have hwl := wth_len a b f j
          have HW : Hid (wth a b f (j + 1) = wth a b f j ++ (if 0 ≤ f j - 1 ∧ a ≤ f j - 1 ∧ f j - 1 < b then [(j : Int)] else [])) := Lib.hid rfl
          clear hB hown
          generalize f j - 1 = p at HG HW
          by_cases h1 : 0 ≤ p
          · by_cases h2 : a ≤ p
            · by_cases h3 : p < b
              · rw [if_pos ⟨h1, h2, h3⟩] at HW
                go_wp2_with (first
                  | (go_at_call 10; refine HG.out.mono ?_; rintro e w' ⟨rfl, rfl⟩)
                  | (at_builtin; refine wpList_append_any _ rfl _ _ 31 rfl wo.heap.size 3 i0 (.int .i64 0) 1 8 Try.underlying31 hi0 hz0 hz1 hz2 rfl (by decide) _ (wth a b f j).length ((wth a b f j).map (.int .i64)) rfl (HO.out.alloc _) (some ⟨_, 0, none⟩) 1 1 [.int .i64 (j : Int)] rfl rfl (Rd.one _ _ _ rfl) (by intro u hu; simp at hu; subst hu; rfl) (by unfold maxLen; omega) (by omega) (by simp; omega) ?_; intro v2 w2 hown2 hg2 hat2; have HO2 := Lib.hid hown2; have HG2 := Lib.hid hg2; clear hown2 hg2 hat2))
                go_roundw
                case rel => exact ⟨j + 1, by omega, by go_num, by rw [HW.out, List.length_append, List.map_append]; exact HO2.out, (HB.out.alloc hbi _).grown HG2.out (by simp; omega) fun b hb => (HO.out.lt b hb).1⟩
                case measure => simp [intOf]; omega
              · rw [if_neg (by omega), List.append_nil] at HW
                have h3' : b ≤ p := by omega
                go_wp2_with (go_at_call 10; refine HG.out.mono ?_; rintro e w' ⟨rfl, rfl⟩)
                go_roundw
                case rel => exact ⟨j + 1, by omega, by go_num, by rw [HW.out]; exact HO.out, HB.out⟩
                case measure => simp [intOf]; omega
            · rw [if_neg (by omega), List.append_nil] at HW
              have h2' : p < a := by omega
              go_wp2_with (go_at_call 10; refine HG.out.mono ?_; rintro e w' ⟨rfl, rfl⟩)
              go_roundw
              case rel => exact ⟨j + 1, by omega, by go_num, by rw [HW.out]; exact HO.out, HB.out⟩
              case measure => simp [intOf]; omega
          · rw [if_neg (by omega), List.append_nil] at HW
            have h1' : p < 0 := by omega
            go_wp2_with (go_at_call 10; refine HG.out.mono ?_; rintro e w' ⟨rfl, rfl⟩)
            go_roundw
            case rel => exact ⟨j + 1, by omega, by go_num, by rw [HW.out]; exact HO.out, HB.out⟩
            case measure => simp [intOf]; omega
        · obtain rfl : j = n := by omega
          obtain ⟨A6, c6, rfl, -, hrd6⟩ := own_form hown
          have HR6 := Lib.hid hrd6
          have HBw : Hid (Below w.heap.size w wr) := Lib.hid (HBr.out.trans (hB.mono hbs))
          have hwl := wth_len a b f j
          clear hB hown hrd6
          go_wp2_with (first
            | (go_at_call 12; refine (within_ok w1.heap.size (w1.heap.size + 1) w1.heap.size j np pg f a b wr HKi.out).mono ?_; rintro e w7 ⟨v, rfl, hown7, hb7⟩; obtain ⟨A7, c7, rfl, -, hrd7⟩ := own_form hown7; have HR7 := Lib.hid hrd7; have HR67 := Lib.hid (HR6.out.later hb7); have HB7 := Lib.hid (HBw.out.trans (hb7.mono HBw.out.size)); clear hown7 hrd7 hb7)
            | (go_at_call 11; refine (equali_ok A7 A6 c7 c6 (wth a b f j) (wth a b f j) _ HR7.out HR67.out (by omega)).mono ?_; rintro e w8 ⟨rfl, n8, rfl⟩; have hd : decide (wth a b f j = wth a b f j) = true := decide_eq_true rfl))
          go_ret
          exact ⟨rfl, below_drewN HB7.out n8⟩
theorem lmapWithin_true (z : Int) (A : Option Addr) (len c : Nat) (a b : Int) (w : World) (hz : (Lit.int .u8 z).wf = true)
    (h : len ≤ maxLen ∧ ∀ i, i < len → ∃ x, A = some x ∧ ∃ (c0 c1 : Int), w.cell? (x.add (i * 2 + 0)) = some (.int .i8 c0) ∧ w.cell? (x.add (i * 2 + 1)) = some (.int .i16 c1) ∧
      (Lit.int .i8 c0).wf = true ∧ (Lit.int .i16 c1).wf = true) (ha : (Lit.int .i16 a).wf = true) (hb : (Lit.int .i16 b).wf = true) :
    Calls Try.prog 3 #[.int .u8 z, .slice A len c, .int .i16 a, .int .i16 b] w fun e w' => e = .returned (.bool true) ∧ Below w.heap.size w w' := by
  obtain ⟨l, rfl, ra⟩ := argA_of h
  have h1 := u8_in_ hz
  have h2 := i16_in_ ha
  have h3 := i16_in_ hb
  exact within_walk z A c l a b w ra h1.1 h1.2 h2.1 h2.2 h3.1 h3.2
end Go.Proofs.Ytmidbllmdpjgdaa
