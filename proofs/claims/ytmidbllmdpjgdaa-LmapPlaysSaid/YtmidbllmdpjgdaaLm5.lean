/- The walks of LmapApart and LmapOften. No further condition. -/
import Derived.Test.YtmidbllmdpjgdaaLm4
namespace Go.Proofs.Ytmidbllmdpjgdaa
open Go.RowKit
attribute [local go_sem] go_max2 go_min2 go_max_two go_min_two

theorem Lm.not_own {w : World} {B g h n np : Nat} {pg : Nat → Option Nat} {f : Nat → Int} (k : Lm w B g h n np pg f) {base m : Nat} {v : Value} {xs : List Value} (ho : w.ownsRow base 3 1 v m xs) : ∀ b, v.ownBlock = some b → ¬ LmS g h pg b := by
  intro b hv hs
  rcases hs with rfl | rfl | ⟨p, e⟩
  · exact own_blk_ne ho k.own (by decide) hv
  · exact own_blk_ne ho k.row (by decide) hv
  · exact own_blk_ne ho (k.page p b e) (by decide) hv
theorem gv_put {n : Nat} {f : Nat → Int} {x y pl : Int} (h : x ≠ y) : gv n (put n f x pl) y = gv n f y := by
  unfold gv
  split
  · unfold put
    rw [if_neg (by intro q; apply h; omega)]
  · rfl
theorem gv_same {n : Nat} {f : Nat → Int} {x pl : Int} (h : 0 ≤ x ∧ x < n) : gv n (put n f x pl) x = mxI pl (-1) := by
  unfold gv put
  rw [if_pos h, if_pos ⟨h.1, h.2, rfl⟩]
  omega
theorem allv_put {n : Nat} {f : Nat → Int} {x pl : Int} {i : Nat} (hx : x ≠ i) : (put n f x pl) i - 1 = f i - 1 := by
  unfold put
  rw [if_neg (by intro q; apply hx; omega)]
set_option maxRecDepth 100000 in
set_option maxHeartbeats 6400000 in
theorem apart_walk (A : Option Addr) (c : Nat) (l : List Ac) (x : Nat) (y pl : Int) (w : World) (ra : ArgA w A l) (x1 : x < 256) (y0 : 0 ≤ y) (y1 : y < 256) (p0 : -32768 ≤ pl) (p1 : pl ≤ 32767) :
    Calls Try.prog 4 #[.slice A l.length c, .int .u8 x, .int .u8 y, .int .i16 pl] w fun e w' => e = .returned (.bool true) ∧ Below w.heap.size w w' := by
  have ha := awake_ok w
  by_cases hlong : 80 < l.length
  · go_enter Try.func4, Try.ntmps4
    go_wp2_with (go_at_call 7; refine ha.mono ?_; rintro e w1 ⟨rfl, hb1⟩)
    go_ret
    exact ⟨rfl, hb1⟩
  have hfew : l.length ≤ 80 := by omega
  have HAW := Lib.hid ha
  have HRA := Lib.hid ra
  clear hlong ha ra
  go_enter Try.func4, Try.ntmps4
  go_wp2_with (first
    | (go_at_call 7; refine HAW.out.mono ?_; rintro e w1 ⟨rfl, hb1⟩; have HB1 := Lib.hid hb1; have HR1 := Lib.hid (HRA.out.later hb1); clear hb1)
    | (go_at_call 8; refine (lnew_ok 256 _ (by decide)).mono ?_; rintro e w2 ⟨np, rfl, hk, hb⟩; have HB2 := Lib.hid (HB1.out.trans (hb.mono HB1.out.size)); have HR2 := Lib.hid (HR1.out.later hb); have HK2 := Lib.hid hk; have hB := HB1.out.size; clear hk hb))
  go_loopw [11, 24] (fun _ i wr => ∃ (k : Nat) (pg : Nat → Option Nat) (f : Nat → Int), k ≤ l.length ∧ i = .int .i64 k ∧ Lm wr w1.heap.size (w1.heap.size + 1) w1.heap.size 256 np pg f ∧ Below w.heap.size w wr) (fun _ i _ => l.length - (intOf i).toNat)
  case atStart => exact ⟨0, _, _, by omega, rfl, HK2.out, HB2.out⟩
  case round =>
    obtain ⟨k, pg, f, hk, rfl, hkm, hBr⟩ := hrel
    have hbs := hBr.size
    have HBr := Lib.hid hBr
    by_cases hlt : k < l.length
    · obtain ⟨s, hs⟩ : ∃ s, l[k]? = some s := ⟨_, List.getElem?_eq_getElem hlt⟩
      obtain ⟨xa, rfl, c0, c1, q0, q1⟩ := HRA.out.later hBr k s hs
      have g1 : (k : Int) < l.length := by omega
      have HKM := Lib.hid (hkm.later ((Below.refl _ _).alloc (Nat.le_refl _) (.cells #[.int .i8 s.lba, .int .i16 s.place] 29)))
      have HBA := Lib.hid (hBr.alloc hbs (.cells #[.int .i8 s.lba, .int .i16 s.place] 29))
      clear hs hkm hBr
      go_wp2_with (go_at_call 9; refine (set_b w1.heap.size _ _ 256 np pg f s.lba s.place _ HKM.out (by omega) (by omega)).mono ?_; rintro e w3 ⟨rfl, pg', hk3, -, hb3⟩; have HK3 := Lib.hid hk3; have HB3 := Lib.hid (HBA.out.trans (hb3.mono hB)); clear hk3 hb3)
      go_roundw
      case rel => exact ⟨k + 1, pg', _, by omega, by go_num, HK3.out, HB3.out⟩
      case measure => simp [intOf]; omega
    · obtain rfl : k = l.length := by omega
      have HKM := Lib.hid hkm
      clear hkm hBr
      have hl1 := allv_len 256 f
      have hl2 := allv_len 256 (put 256 f x pl)
      obtain ⟨m1, hm1⟩ : ∃ m1, m1 = allv 256 f := ⟨_, rfl⟩
      obtain ⟨m2, hm2⟩ : ∃ m2, m2 = allv 256 (put 256 f x pl) := ⟨_, rfl⟩
      have HM1 := Lib.hid hm1
      have HM2 := Lib.hid hm2
      rw [← hm1] at hl1
      rw [← hm2] at hl2
      have hgo : (x : Int) ≠ y → gv 256 (put 256 f x pl) y = gv 256 f y := fun h => gv_put h
      have HGO := Lib.hid hgo
      clear hm1 hm2 hgo
      rcases hd : ((x : Int) != y) with _ | _
      all_goals
       go_wp2_with (first
        | (go_at_call 10; refine (get_ok w1.heap.size (w1.heap.size + 1) w1.heap.size 256 np pg f y wr HKM.out).mono ?_; rintro e w' ⟨rfl, rfl⟩)
        | (go_at_call 13; have hal := all_ok w1.heap.size (w1.heap.size + 1) w1.heap.size 256 np pg f _ HKM.out; rw [← HM1.out, hl1] at hal; refine hal.mono ?_; clear hal; rintro e w4 ⟨v4, rfl, hown4, hb4⟩; have HO4 := Lib.hid hown4; have HK4 := Lib.hid (HKM.out.later hb4); have HB4 := Lib.hid (HBr.out.trans (hb4.mono hbs)); clear hown4 hb4 HKM)
        | (go_at_call 9; refine (set_ok w1.heap.size (w1.heap.size + 1) w1.heap.size 256 np pg f x pl _ HK4.out (by omega) (by omega)).mono ?_; rintro e w5 ⟨rfl, pg', hk5, -, hf5⟩; have HB5 := Lib.hid (HB4.out.trans ((HK4.out.below hf5).mono hB)); have HO5 := Lib.hid (ownsRow_fr (S := LmS (w1.heap.size + 1) w1.heap.size pg) HO4.out hf5 (HK4.out.not_own HO4.out)); have HK5 := Lib.hid hk5; clear hk5 hf5 HK4)
        | (go_at_call 10; have hg := get_ok w1.heap.size (w1.heap.size + 1) w1.heap.size 256 np pg' (put 256 f x pl) y _ HK5.out; rw [HGO.out (by simpa using hd)] at hg; refine hg.mono ?_; rintro e w' ⟨rfl, rfl⟩)
        | (go_at_call 13; have hal := all_ok _ _ _ _ _ _ _ _ HK5.out; rw [← HM2.out, hl2] at hal; refine hal.mono ?_; clear hal; rintro e w6 ⟨v6, rfl, hown6, hb6⟩; obtain ⟨A6, c6, rfl, -, hrd6⟩ := own_form hown6; have HR6 := Lib.hid hrd6; obtain ⟨A4, c4, rfl, -, hrd4⟩ := own_form HO5.out; have HR4 := Lib.hid (hrd4.later hb6); have HB6 := Lib.hid (HB5.out.trans (hb6.mono HB5.out.size)); clear hown6 hb6 hrd6 hrd4 HO5 HO4))
       go_loopw [15, 72] (fun _ i wi => ∃ j m : Nat, j ≤ 256 ∧ i = .int .i64 j ∧ wi = w6.drewN m) (fun _ i _ => 256 - (intOf i).toNat)
       case atStart => exact ⟨0, 0, by omega, rfl, rfl⟩
       case round =>
        obtain ⟨j, m, hj, rfl, rfl⟩ := hrel
        by_cases hlt : j < 256
        · obtain ⟨z4, rfl, d4⟩ := HR4.out j (.int .i64 (f j - 1)) (by rw [HM1.out, List.getElem?_map, allv_get f hlt]; rfl)
          obtain ⟨z6, rfl, d6⟩ := HR6.out j (.int .i64 (put 256 f x pl j - 1)) (by rw [HM2.out, List.getElem?_map, allv_get _ hlt]; rfl)
          have g1 : (j : Int) < ((256 : Nat) : Int) := by omega
          have g2 : (j : Int) < 256 := by omega
          have hwx : IntKind.i64.wrap (x : Int) = x := IntWalk.i64_in _ (by omega)
          rcases hjx : ((j : Int) != (x : Int)) with _ | _
          · have hjn : j = x := by
              have h9 : (j : Int) = x := by simpa using hjx
              omega
            have hj1 : (j == x) = true := by simp [hjn]
            have hj2 : (j != x) = false := by simp [hjn]
            have hj3 : decide (j = x) = true := by simp [hjn]
            clear hjn
            go_wp2
            go_quiet (fail)
            go_wp2
            go_roundw
            case rel => exact ⟨j + 1, _, by omega, by go_num, rfl⟩
            case measure => simp [intOf]; omega
          · have hne : (x : Int) ≠ j := by
              have : (j : Int) ≠ x := by simpa using hjx
              exact fun e => this e.symm
            rw [allv_put hne] at d6
            have hjn : ¬ j = x := fun e => hne (by rw [e])
            have hj1 : (j == x) = false := by simp [hjn]
            have hj2 : (j != x) = true := by simp [hjn]
            have hj3 : decide (j = x) = false := by simp [hjn]
            go_wp2
            go_quiet (fail)
            go_wp2
            go_roundw
            case rel => exact ⟨j + 1, _, by omega, by go_num, rfl⟩
            case measure => simp [intOf]; omega
        · obtain rfl : j = 256 := by omega
          obtain ⟨z6, rfl, d6⟩ := HR6.out x (.int .i64 (mxI pl (-1))) (by
            rw [HM2.out, List.getElem?_map, allv_get _ x1]
            have := gv_same (n := 256) (f := f) (x := x) (pl := pl) (by omega)
            rw [gv_in x1] at this
            rw [← this]
            rfl)
          have g1 : (x : Int) < 256 := by omega
          go_wp2
          go_ret
          exact ⟨rfl, below_drewN HB6.out m⟩
theorem lmapApart_true (A : Option Addr) (len c : Nat) (x y pl : Int) (w : World)
    (h : len ≤ maxLen ∧ ∀ i, i < len → ∃ x, A = some x ∧ ∃ (c0 c1 : Int), w.cell? (x.add (i * 2 + 0)) = some (.int .i8 c0) ∧ w.cell? (x.add (i * 2 + 1)) = some (.int .i16 c1) ∧
      (Lit.int .i8 c0).wf = true ∧ (Lit.int .i16 c1).wf = true) (hx : (Lit.int .u8 x).wf = true) (hy : (Lit.int .u8 y).wf = true) (hp : (Lit.int .i16 pl).wf = true) :
    Calls Try.prog 4 #[.slice A len c, .int .u8 x, .int .u8 y, .int .i16 pl] w fun e w' => e = .returned (.bool true) ∧ Below w.heap.size w w' := by
  obtain ⟨l, rfl, ra⟩ := argA_of h
  have h1 := u8_in_ hx
  have h2 := u8_in_ hy
  have h3 := i16_in_ hp
  obtain ⟨x, rfl⟩ := Int.eq_ofNat_of_zero_le h1.1
  exact apart_walk A c l x y pl w ra (by omega) h2.1 h2.2 h3.1 h3.2
theorem put_back {n x : Nat} {f : Nat → Int} {a b : Int} (hx : x < n) (h0 : f x = 0) : put n (put n (put n f x a) x b) x (-1) = f := by
  funext i
  simp only [put_in _ _ hx, upv]
  split
  · rename_i h
    subst h
    rw [h0]
    decide
  · rfl
set_option maxRecDepth 100000 in
set_option maxHeartbeats 6400000 in
theorem often_walk (A : Option Addr) (c : Nat) (l : List Ac) (x : Nat) (a b : Int) (w : World) (ra : ArgA w A l) (x1 : x < 256) (a0 : 0 ≤ a) (a1 : a < 65536) (b0 : 0 ≤ b) (b1 : b < 65536) :
    Calls Try.prog 5 #[.slice A l.length c, .int .u8 x, .int .u16 a, .int .u16 b] w fun e w' => e = .returned (.bool true) ∧ Below w.heap.size w w' := by
  have ha := awake_ok w
  by_cases hlong : 80 < l.length
  · go_enter Try.func5, Try.ntmps5
    go_wp2_with (go_at_call 7; refine ha.mono ?_; rintro e w1 ⟨rfl, hb1⟩)
    go_ret
    exact ⟨rfl, hb1⟩
  have hfew : l.length ≤ 80 := by omega
  have HAW := Lib.hid ha
  have HRA := Lib.hid ra
  have hwx : IntKind.i64.wrap (x : Int) = x := IntWalk.i64_in _ (by omega)
  clear hlong ha ra
  go_enter Try.func5, Try.ntmps5
  go_wp2_with (first
    | (go_at_call 7; refine HAW.out.mono ?_; rintro e w1 ⟨rfl, hb1⟩; have HB1 := Lib.hid hb1; have HR1 := Lib.hid (HRA.out.later hb1); clear hb1)
    | (go_at_call 8; refine (lnew_ok 300 _ (by decide)).mono ?_; rintro e w2 ⟨np, rfl, hk, hb⟩; have HB2 := Lib.hid (HB1.out.trans (hb.mono HB1.out.size)); have HR2 := Lib.hid (HR1.out.later hb); have HK2 := Lib.hid hk; have hB := HB1.out.size; clear hk hb))
  go_loopw [11, 24] (fun _ i wr => ∃ (k : Nat) (pg : Nat → Option Nat) (f : Nat → Int), k ≤ l.length ∧ i = .int .i64 k ∧ f x = 0 ∧ Lm wr w1.heap.size (w1.heap.size + 1) w1.heap.size 300 np pg f ∧ Below w.heap.size w wr) (fun _ i _ => l.length - (intOf i).toNat)
  case atStart => exact ⟨0, _, _, by omega, rfl, rfl, HK2.out, HB2.out⟩
  case round =>
    obtain ⟨k, pg, f, hk, rfl, hf0, hkm, hBr⟩ := hrel
    have hbs := hBr.size
    have HBr := Lib.hid hBr
    by_cases hlt : k < l.length
    · obtain ⟨s, hs⟩ : ∃ s, l[k]? = some s := ⟨_, List.getElem?_eq_getElem hlt⟩
      obtain ⟨xa, rfl, c0, c1, q0, q1⟩ := HRA.out.later hBr k s hs
      have g1 : (k : Int) < l.length := by omega
      have HKM := Lib.hid (hkm.later ((Below.refl _ _).alloc (Nat.le_refl _) (.cells #[.int .i8 s.lba, .int .i16 s.place] 29)))
      have HBA := Lib.hid (hBr.alloc hbs (.cells #[.int .i8 s.lba, .int .i16 s.place] 29))
      have HF := Lib.hid hf0
      clear hs hkm hBr hf0
      rcases hd : (s.lba != (x : Int)) with _ | _
      · go_wp2
        go_roundw
        case rel => exact ⟨k + 1, pg, f, by omega, by go_num, HF.out, HKM.out, HBA.out⟩
        case measure => simp [intOf]; omega
      · have hne : ¬ s.lba = x := by simpa using hd
        have HF2 : Hid (put 300 f s.lba s.place x = 0) := Lib.hid (by
          unfold put
          rw [if_neg (by intro q; apply hne; omega)]
          exact HF.out)
        clear hne
        go_wp2_with (go_at_call 9; refine (set_b w1.heap.size _ _ 300 np pg f s.lba s.place _ HKM.out (by omega) (by omega)).mono ?_; rintro e w3 ⟨rfl, pg', hk3, -, hb3⟩; have HK3 := Lib.hid hk3; have HB3 := Lib.hid (HBA.out.trans (hb3.mono hB)); clear hk3 hb3)
        go_roundw
        case rel => exact ⟨k + 1, pg', _, by omega, by go_num, HF2.out, HK3.out, HB3.out⟩
        case measure => simp [intOf]; omega
    · obtain rfl : k = l.length := by omega
      have HKM := Lib.hid hkm
      have e1 : gv 300 f x = -1 := by rw [gv_in (by omega), hf0]; rfl
      have e2 : gv 300 (put 300 f x a) x = a := by rw [gv_same (by omega)]; unfold mxI; rw [if_neg (by omega)]
      have e3 : gv 300 (put 300 (put 300 f x a) x b) x = b := by rw [gv_same (by omega)]; unfold mxI; rw [if_neg (by omega)]
      have e4 : put 300 (put 300 (put 300 f x a) x b) x (-1) = f := put_back (by omega) hf0
      have E1 := Lib.hid e1
      have E2 := Lib.hid e2
      have E3 := Lib.hid e3
      have E4 := Lib.hid e4
      have haa : (a == a) = true := by simp
      have hbb : (b == b) = true := by simp
      generalize cnt f 300 = cn at *
      clear hkm hBr e1 e2 e3 e4 hf0
      go_wp2_with (first
        | (go_at_call 14; refine (many_ok w1.heap.size (w1.heap.size + 1) w1.heap.size 300 np pg f _ HKM.out).mono ?_; rintro e w' ⟨rfl, rfl⟩)
        | (go_at_call 9; have hs := set_b w1.heap.size _ _ 300 np pg f x a _ HKM.out (by omega) (by omega); rw [E1.out] at hs; refine hs.mono ?_; clear hs; rintro e w3 ⟨rfl, pg3, hk3, -, hb3⟩; have HK3 := Lib.hid hk3; have HB3 := Lib.hid (HBr.out.trans (hb3.mono hB)); clear hk3 hb3 HKM)
        | (go_at_call 9; have hs := set_b w1.heap.size _ _ 300 np pg3 (put 300 f x a) x b _ HK3.out (by omega) (by omega); rw [E2.out] at hs; refine hs.mono ?_; clear hs; rintro e w4 ⟨rfl, pg4, hk4, -, hb4⟩; have HK4 := Lib.hid hk4; have HB4 := Lib.hid (HB3.out.trans (hb4.mono hB)); clear hk4 hb4 HK3)
        | (go_at_call 9; have hs := set_b w1.heap.size _ _ 300 np pg4 (put 300 (put 300 f x a) x b) x (-1) _ HK4.out (by omega) (by omega); rw [E3.out, E4.out] at hs; refine hs.mono ?_; clear hs; rintro e w5 ⟨rfl, pg5, hk5, -, hb5⟩; have HK5 := Lib.hid hk5; have HB5 := Lib.hid (HB4.out.trans (hb5.mono hB)); clear hk5 hb5 HK4)
        | (go_at_call 10; have hg := get_ok w1.heap.size (w1.heap.size + 1) w1.heap.size 300 np pg5 f x _ HK5.out; rw [E1.out] at hg; refine hg.mono ?_; rintro e w' ⟨rfl, rfl⟩)
        | (go_at_call 14; refine (many_ok w1.heap.size (w1.heap.size + 1) w1.heap.size 300 np pg5 f _ HK5.out).mono ?_; rintro e w' ⟨rfl, rfl⟩))
      go_ret
      exact ⟨rfl, HB5.out⟩
theorem lmapOften_true (A : Option Addr) (len c : Nat) (x a b : Int) (w : World)
    (h : len ≤ maxLen ∧ ∀ i, i < len → ∃ x, A = some x ∧ ∃ (c0 c1 : Int), w.cell? (x.add (i * 2 + 0)) = some (.int .i8 c0) ∧ w.cell? (x.add (i * 2 + 1)) = some (.int .i16 c1) ∧
      (Lit.int .i8 c0).wf = true ∧ (Lit.int .i16 c1).wf = true) (hx : (Lit.int .u8 x).wf = true) (ha : (Lit.int .u16 a).wf = true) (hb : (Lit.int .u16 b).wf = true) :
    Calls Try.prog 5 #[.slice A len c, .int .u8 x, .int .u16 a, .int .u16 b] w fun e w' => e = .returned (.bool true) ∧ Below w.heap.size w w' := by
  obtain ⟨l, rfl, ra⟩ := argA_of h
  have h1 := u8_in_ hx
  have h2 := u16_in_ ha
  have h3 := u16_in_ hb
  obtain ⟨x, rfl⟩ := Int.eq_ofNat_of_zero_le h1.1
  exact often_walk A c l x a b w ra (by omega) h2.1 h2.2 h3.1 h3.2
end Go.Proofs.Ytmidbllmdpjgdaa
