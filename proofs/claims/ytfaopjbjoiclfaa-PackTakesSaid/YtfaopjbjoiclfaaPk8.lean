/- The walk of PackTakes. No further condition. -/
import Derived.Test.YtfaopjbjoiclfaaPk6
namespace Go.Proofs.Ytfaopjbjoiclfaa
open Go.RowKit

/-- A cut of a row that may be nil. -/
structure Lf (w : World) (g : Nat) (u : Value) (xs : List Int) : Prop where
  form : (u = .slice none 0 0 ∧ xs = []) ∨ ∃ b o c, u = .slice (some ⟨b, o, none⟩) xs.length c ∧ Rd w (some ⟨b, o, none⟩) (byv xs) ∧ xs.length ≤ c ∧ b ≠ g
theorem Lf.of_own {w : World} {base g : Nat} {u : Value} {xs : List Int} {t : TypeId} {cs : Array Value} (k : w.ownsRow base 5 1 u xs.length (byv xs)) (kb : Blk w g t cs) (hne : 5 ≠ t) : Lf w g u xs := by
  have h1 := own_blk_ne k kb hne
  rcases k.2 with ⟨e, h⟩ | ⟨x, cap, cur, e, -, -, h5, -⟩
  · refine ⟨.inl ⟨e, ?_⟩⟩
    rcases xs with _ | ⟨y, ys⟩
    · rfl
    · simp at h
  · subst e
    exact ⟨.inr ⟨x, 0, cap, rfl, Rd.of_own k, h5, fun e => h1 (by rw [e]; rfl)⟩⟩
theorem Lf.sl {w : World} {g : Nat} {u : Value} {xs : List Int} (k : Lf w g u xs) : ∃ A c, u = .slice A xs.length c ∧ Rd w A (byv xs) ∧ xs.length ≤ c ∧ (∀ ad, A = some ad → ad.block ≠ g) := by
  rcases k.form with ⟨e, h⟩ | ⟨b, o, c, e, h1, h2, h3⟩
  · subst h
    exact ⟨none, 0, e, Rd.nil _ _, Nat.le_refl _, fun ad e => by cases e⟩
  · exact ⟨_, c, e, h1, h2, fun ad e => by injection e with e; subst e; exact h3⟩
theorem Lf.rd {w : World} {g : Nat} {A : Option Addr} {len c : Nat} {xs : List Int} (k : Lf w g (.slice A len c) xs) : Rd w A (byv xs) := by
  obtain ⟨A', c', e, h, -, -⟩ := k.sl
  injection e with e1 e2 e3
  subst e1
  exact h
theorem Lf.fr {w w' : World} {g : Nat} {u : Value} {xs : List Int} (k : Lf w g u xs) (f : Fr (· = g) w w') : Lf w' g u xs := by
  rcases k.form with h | ⟨b, o, c, e, h1, h2, h3⟩
  · exact ⟨.inl h⟩
  · exact ⟨.inr ⟨b, o, c, e, h1.fr f (fun ad e => by injection e with e; subst e; exact h3), h2, h3⟩⟩
theorem Lf.later {w w' : World} {g : Nat} {u : Value} {xs : List Int} (k : Lf w g u xs) (hb : Below w.heap.size w w') : Lf w' g u xs := by
  rcases k.form with h | ⟨b, o, c, e, h1, h2, h3⟩
  · exact ⟨.inl h⟩
  · exact ⟨.inr ⟨b, o, c, e, h1.later hb, h2, h3⟩⟩
theorem Lf.drewN {w : World} {g : Nat} {u : Value} {xs : List Int} (k : Lf w g u xs) (n : Nat) : Lf (w.drewN n) g u xs := k.later (below_drewN (Below.refl _ _) n)
theorem Rd.drewN_ {w : World} {A : Option Addr} {xs : List Value} (k : Rd w A xs) (n : Nat) : Rd (w.drewN n) A xs := k.later (below_drewN (Below.refl _ _) n)
theorem cut_lo (A : Option Addr) (len c n : Nat) (z : Int) (hz : z = n) (hn : n ≤ c) (W : World) :
    (Instr.sliceAt 24 (.slice A len c) none (some (.int .i64 z)) none).run Try.prog W = .ok (.slice A n c) W := by
  have hu : Try.prog.underlying 24 = some (.slice (Try.prog.elem 24)) := by kernel_rfl
  have hs : (sizeOf (Try.prog.elem 24)).run Try.prog W = .ok 1 W := by kernel_rfl
  rw [run_sliceAt_slice (h := hu), run_slice_h (ht := hu) (h0 := by omega) (h2 := by omega), hs]
  subst hz
  simp only [Result.andThen, sliced, Int.toNat_natCast, Nat.zero_mul, Nat.sub_zero]
  congr 2
  split
  · rfl
  · rcases A with _ | ad
    · rfl
    · simp [Addr.add]
theorem cut_hi (A : Option Addr) (len c n : Nat) (z : Int) (hz : z = n) (hn : n ≤ len) (W : World) :
    (Instr.sliceAt 24 (.slice A len c) (some (.int .i64 z)) none none).run Try.prog W = .ok (.slice (if c = n then A else A.map (·.add n)) (len - n) (c - n)) W := by
  have hu : Try.prog.underlying 24 = some (.slice (Try.prog.elem 24)) := by kernel_rfl
  have hs : (sizeOf (Try.prog.elem 24)).run Try.prog W = .ok 1 W := by kernel_rfl
  rw [run_sliceAt_slice (h := hu), run_slice_l (ht := hu) (h0 := by omega) (h1 := by omega), hs]
  subst hz
  simp only [Result.andThen, sliced, Int.toNat_natCast, Nat.mul_one]
theorem Lf.drop {w : World} {g : Nat} {A : Option Addr} {c n : Nat} {xs : List Int} (k : Lf w g (.slice A xs.length c) xs) (hn : n ≤ xs.length) : Lf w g (.slice (if c = n then A else A.map (·.add n)) (xs.length - n) (c - n)) (xs.drop n) := by
  have hl : (xs.drop n).length = xs.length - n := List.length_drop
  rcases k.form with ⟨e, h⟩ | ⟨b, o, c', e, h1, h2, h3⟩
  · subst h
    injection e with e1 e2 e3
    subst e1 e3
    refine ⟨.inl ⟨?_, by simp⟩⟩
    simp at hn
    subst hn
    simp
  · injection e with e1 e2 e3
    subst e1 e3
    refine ⟨.inr ?_⟩
    rw [← hl]
    by_cases hc : c = n
    · rw [if_pos hc]
      have : xs.drop n = [] := List.drop_eq_nil_of_le (by omega)
      rw [this]
      exact ⟨b, o, c - n, rfl, Rd.nil _ _, by simp, h3⟩
    · rw [if_neg hc]
      refine ⟨b, o + n, c - n, by simp [Addr.add], ?_, by omega, h3⟩
      rw [byv_drop]
      exact h1.drop n
set_option maxRecDepth 100000 in
set_option maxHeartbeats 6400000 in
theorem takes_walk (Ab : Option Addr) (cb : Nat) (bs : List Int) (A : Option Addr) (c : Nat) (l : List It) (w : World) (rb : Rd w Ab (byv bs)) (ob : Oct bs) (hbm : bs.length ≤ 9223372036854775807) (ra : ArgP w A l) (hm : l.length ≤ 9223372036854775807) :
    Calls Try.prog 6 #[.slice Ab bs.length cb, .slice A l.length c] w fun e w' => e = .returned (.bool true) ∧ Below w.heap.size w w' := by
  have ha := awake_ok w
  by_cases hlongb : 300 < bs.length
  · go_enter Try.func6, Try.ntmps6
    go_wp2_with (go_at_call 7; refine ha.mono ?_; rintro e w1 ⟨rfl, hb1⟩)
    go_ret
    exact ⟨rfl, hb1⟩
  by_cases hlong : 40 < l.length
  · have hfb : bs.length ≤ 300 := by omega
    go_enter Try.func6, Try.ntmps6
    go_wp2_with (go_at_call 7; refine ha.mono ?_; rintro e w1 ⟨rfl, hb1⟩)
    go_ret
    exact ⟨rfl, hb1⟩
  have hfb : bs.length ≤ 300 := by omega
  have hfew : l.length ≤ 40 := by omega
  have HAW := Lib.hid ha
  have HRA := Lib.hid ra
  have HRB := Lib.hid rb
  clear hlong hlongb ha ra rb hm hbm
  go_enter Try.func6, Try.ntmps6
  go_wp2_with (first
    | (go_at_call 7; refine HAW.out.mono ?_; rintro e w1 ⟨rfl, hb1⟩; have HB1 := Lib.hid hb1; have HR1 := Lib.hid (HRB.out.later hb1); clear hb1)
    | (go_at_call 12; refine (read_ok Ab cb bs _ HR1.out (by omega)).mono ?_; rintro e w2 ⟨g, b0, rfl, hg, hh, hre, hb2⟩; have hg1 := Nat.le_trans HB1.out.size hg; have HRE2 := Lib.hid hre; have HB2 := Lib.hid (HB1.out.trans (hb2.mono HB1.out.size)); have HR2 := Lib.hid (HR1.out.later hb2); clear hb2 hre hg hh)
    | (go_at_call 16; refine (cloneb_ok Ab cb bs _ HR2.out (by omega)).mono ?_; rintro e w3 ⟨r3, rfl, hown3, hb3⟩; have HRE3 := Lib.hid (HRE2.out.later hb3); have HB3 := Lib.hid (HB2.out.trans (hb3.mono HB2.out.size)); have HO3 := Lib.hid hown3; clear hb3 hown3))
  obtain ⟨o3, k3, b3, -⟩ := HRE3.out.form
  have HL3 := Lib.hid (Lf.of_own HO3.out b3 (by decide))
  clear b3 o3 k3
  go_loopw [6, 7, 9, 10, 11, 12, 13, 30] (fun u go _ _ _ _ _ i wr => ∃ (k : Nat) (good : Bool) (xs : List Int), k ≤ l.length ∧ i = .int .i64 k ∧ go = .bool good ∧ Re wr g b0 xs (!good) ∧ (good = true → Lf wr g u xs) ∧ Oct xs ∧ xs.length ≤ 300 ∧ Below w.heap.size w wr) (fun _ _ _ _ _ _ _ i _ => l.length - (intOf i).toNat)
  case atStart => exact ⟨0, true, bs, by omega, rfl, rfl, HRE3.out, fun _ => HL3.out, ob, hfb, HB3.out⟩
  case round =>
    obtain ⟨k, good, xs, hk, rfl, rfl, hre, hlf, ho, hxl, hB⟩ := hrel
    by_cases hlt : k < l.length
    · obtain ⟨s, hs⟩ : ∃ s, l[k]? = some s := ⟨_, List.getElem?_eq_getElem hlt⟩
      obtain ⟨x, rfl, ⟨c0, c1, c2, c3⟩, ok⟩ := HRA.out.below hB k s hs
      have g1 : (k : Int) < l.length := by omega
      have HWR : Hid (wrap64 s.size = s.size) := Lib.hid (by have h1 := ok.lo; have h2 := ok.hi; unfold wrap64; omega)
      have hHB : ∀ W, Fr (· = g) (wr.alloc (.cells #[.int .i8 s.size, .int .u64 s.n, .slice s.a s.raw.length s.c, .bool s.is] 37)) W → Below w.heap.size w W := fun W f => (hB.alloc hB.size _).trans (f.toBelow (hB.alloc hB.size (.cells #[.int .i8 s.size, .int .u64 s.n, .slice s.a s.raw.length s.c, .bool s.is] 37)).size fun b hb e => by omega)
      have hre1 := hre.later ((Below.refl wr.heap.size wr).alloc (Nat.le_refl _) (.cells #[.int .i8 s.size, .int .u64 s.n, .slice s.a s.raw.length s.c, .bool s.is] 37))
      have HRE4 := Lib.hid hre1
      have HFB := Lib.hid hHB
      have HLF := Lib.hid hlf
      have HO := Lib.hid ho
      have HOK := Lib.hid ok
      have hBs := hB.size
      have HB := Lib.hid hB
      clear hs hre hHB hre1 hlf ho ok hB
      by_cases hcase : good = true ∧ 0 ≤ s.size ∧ s.size ≤ xs.length
      · obtain ⟨rfl, hz0, hz1⟩ := hcase
        obtain ⟨A6, c6, rfl, hrd6, hc6, hfar6⟩ := (HLF.out rfl).sl
        obtain ⟨n, hn⟩ : ∃ n : Nat, s.size = n := Int.eq_ofNat_of_zero_le hz0
        have hnl : n ≤ xs.length := by omega
        have HZN : Hid (wrap64 s.size = n) := Lib.hid (by rw [HWR.out, hn])
        have hw1 : 0 ≤ wrap64 s.size := by rw [HWR.out]; exact hz0
        have hw2 : wrap64 s.size ≤ xs.length := by rw [HWR.out]; exact hz1
        have hcl := cut_lo A6 xs.length c6 n (wrap64 s.size) HZN.out (by omega)
        have hch := cut_hi A6 xs.length c6 n (wrap64 s.size) HZN.out hnl
        have HLD := Lib.hid (((HLF.out rfl).drop hnl).later ((Below.refl wr.heap.size wr).alloc (Nat.le_refl _) (.cells #[.int .i8 s.size, .int .u64 s.n, .slice s.a s.raw.length s.c, .bool s.is] 37)))
        generalize (if c6 = n then A6 else A6.map (·.add n)) = A7 at hch HLD
        clear hn hz0 hz1
        have HRD := Lib.hid ((hrd6.take n).alloc (.cells #[.int .i8 s.size, .int .u64 s.n, .slice s.a s.raw.length s.c, .bool s.is] 37))
        rw [← byv_take] at HRD
        have hln : (xs.take n).length = n := by rw [List.length_take]; omega
        have hlm : (xs.drop n).length = xs.length - n := List.length_drop
        rcases his : s.is with _ | _
        · rw [his] at c3 HRE4 HFB HRD HLD
          clear his
          go_wp2_with fail
          go_quiet (fail)
          obtain ⟨ys, hys⟩ : ∃ ys, ys = (xs.take n).take 8 := ⟨_, rfl⟩
          have hyl : ys.length ≤ 8 ∧ ys.length ≤ n ∧ (8 < n → ys.length = 8) ∧ (n ≤ 8 → ys.length = n) := by rw [hys, List.length_take, hln]; omega
          have HNT := Lib.hid (take_ok g b0 xs n _ (HRE4.out.drewN nq) (by omega) hnl HO.out)
          rw [← hys] at HNT
          have HYO : Hid (Oct ys) := Lib.hid (by rw [hys]; exact (HO.out.take n).take 8)
          have HYS := Lib.hid hys
          clear hys
          go_wp2_with fail
          all_goals
            go_loopw [12, 13] (fun v i wv => wv = _ ∧ ∃ j : Nat, j ≤ ys.length ∧ i = .int .i64 ((j : Int) - 1) ∧ v = .int .u64 (num (ys.drop j))) (fun _ i _ => (intOf i + 1).toNat)
            case atStart => exact ⟨rfl, ys.length, Nat.le_refl _, by congr 1; omega, by rw [List.drop_length]; rfl⟩
            case round =>
              obtain ⟨rfl, j, hj, rfl, rfl⟩ := hrel
              rcases j with _ | j
              · rw [show ((0 : Nat) : Int) - 1 = -1 from rfl, List.drop_zero]
                go_wp2_with (first
                  | (go_at_call 13; rw [HZN.out]; refine HNT.out.mono ?_; rintro e w6 ⟨rfl, hre6, hf6⟩; have HRE6 := Lib.hid hre6; have HB6 := Lib.hid (HFB.out _ (((Fr.refl _ _).drewN _).trans' hf6)); have HL6 := Lib.hid ((HLD.out.drewN _).fr hf6); clear hre6 hf6 HNT)
                  | (go_at_call 14; refine (good_ok g b0 (xs.drop n) false _ HRE6.out).mono ?_; rintro e w7 ⟨rfl, rfl⟩)
                  | (go_at_call 15; refine (rest_ok g b0 (xs.drop n) _ HRE6.out (by omega)).mono ?_; rintro e w8 ⟨r8, rfl, hown8, hb8⟩; obtain ⟨A8, c8, rfl, -, hrd8⟩ := own_form hown8; have HRE8 := Lib.hid (HRE6.out.later hb8); have HR8 := Lib.hid hrd8; have HB8 := Lib.hid (HB6.out.trans (hb8.mono HB6.out.size)); have HL8 := Lib.hid (HL6.out.later hb8); clear hown8 hrd8 hb8; rw [hlm])
                  | (go_at_call 10; have he := equalb_ok A8 A7 c8 (c6 - n) (xs.drop n) (xs.drop n) _ HR8.out HL8.out.rd (by omega); rw [hlm] at he; refine he.mono ?_; rintro e w9 ⟨rfl, n9, rfl⟩; have hdd9 : decide (xs.drop n = xs.drop n) = true := decide_eq_true rfl; have HRE9 := Lib.hid (HRE8.out.drewN n9); have HB9 := Lib.hid (below_drewN HB8.out n9); have HL9 := Lib.hid (HL8.out.drewN n9)))
                go_roundw
                case rel => exact ⟨k + 1, true, xs.drop n, by omega, by go_num, rfl, HRE9.out, (fun _ => HL9.out), HO.out.drop n, by omega, HB9.out⟩
                case measure => simp [intOf]; omega
              · have hji : ((j + 1 : Nat) : Int) - 1 = (j : Int) := by omega
                rw [hji]
                obtain ⟨y, hy⟩ : ∃ y, ys[j]? = some y := ⟨_, List.getElem?_eq_getElem hj⟩
                have hyx : (xs.take n)[j]? = some y := by rw [HYS.out, List.getElem?_take_of_lt (by omega)] at hy; exact hy
                obtain ⟨ad, rfl, hc⟩ := (HRD.out.drewN_ nq) j (.int .u8 y) (by simp only [byv, List.getElem?_map, hyx]; rfl)
                have hyo := HYO.out y (List.mem_of_getElem? hy)
                have hdr : num (ys.drop j) = num (ys.drop (j + 1)) * 256 + y := by
                  rw [List.drop_eq_getElem?_toList_append, hy]
                  simp [num]
                  omega
                have hq := num_in (HYO.out.drop (j + 1))
                generalize num (ys.drop (j + 1)) = q at hdr hq ⊢
                have HDR := Lib.hid hdr
                have hq2 : q < 72057594037927936 := by
                  have : (256 : Int) ^ (ys.drop (j + 1)).length ≤ 256 ^ 7 := by
                    have : (ys.drop (j + 1)).length ≤ 7 := by rw [List.length_drop]; omega
                    have h7 : (((256 : Nat) ^ (ys.drop (j + 1)).length : Nat) : Int) ≤ ((256 ^ 7 : Nat) : Int) := Int.ofNat_le.2 (Nat.pow_le_pow_right (by decide) this)
                    rw [Int.natCast_pow] at h7
                    exact h7
                  omega
                have hq1 := hq.1
                clear hq hdr hyx hy hji
                have g3 : (j : Int) < n := by omega
                go_wp2
                go_roundw
                case rel => exact ⟨trivial, j, by omega, rfl, by rw [HDR.out]⟩
                case measure => simp [intOf]
        · rw [his] at c3 HRE4 HFB HRD HLD
          clear his
          go_wp2_with fail
          go_quiet (fail)
          go_wp2_with (first
            | (go_at_call 17; rw [HZN.out]; refine (rraw_ok g b0 xs n _ (HRE4.out.drewN _) (by omega) hnl).mono ?_; rintro e w5 ⟨r5, rfl, hown5, hre5, hf5⟩; obtain ⟨A5, c5, rfl, -, hrd5⟩ := own_form hown5; have HRE5 := Lib.hid hre5; have HF5 := Lib.hid hf5; have HR5 := Lib.hid hrd5; have HP5 := Lib.hid ((HRD.out.drewN_ _).fr hf5 hfar6); have HB5 := Lib.hid (HFB.out _ (((Fr.refl _ _).drewN _).trans' hf5)); have HL5 := Lib.hid ((HLD.out.drewN _).fr hf5); clear hre5 hf5 hrd5 hown5; rw [hln])
            | (go_at_call 10; have he := equalb_ok A5 A6 c5 c6 (xs.take n) (xs.take n) _ HR5.out HP5.out (by omega); rw [hln] at he; refine he.mono ?_; rintro e w6 ⟨rfl, n6, rfl⟩; have hdd : decide (xs.take n = xs.take n) = true := decide_eq_true rfl; have HRE6 := Lib.hid (HRE5.out.drewN n6); have HB6 := Lib.hid (below_drewN HB5.out n6); have HL6 := Lib.hid (HL5.out.drewN n6); clear HRE5 HB5 HL5 HR5 HP5)
            | (go_at_call 14; refine (good_ok g b0 (xs.drop n) false _ HRE6.out).mono ?_; rintro e w7 ⟨rfl, rfl⟩)
            | (go_at_call 15; refine (rest_ok g b0 (xs.drop n) _ HRE6.out (by omega)).mono ?_; rintro e w8 ⟨r8, rfl, hown8, hb8⟩; obtain ⟨A8, c8, rfl, -, hrd8⟩ := own_form hown8; have HRE8 := Lib.hid (HRE6.out.later hb8); have HR8 := Lib.hid hrd8; have HB8 := Lib.hid (HB6.out.trans (hb8.mono HB6.out.size)); have HL8 := Lib.hid (HL6.out.later hb8); clear hown8 hrd8 hb8; rw [hlm])
            | (go_at_call 10; have he := equalb_ok A8 A7 c8 (c6 - n) (xs.drop n) (xs.drop n) _ HR8.out HL8.out.rd (by omega); rw [hlm] at he; refine he.mono ?_; rintro e w9 ⟨rfl, n9, rfl⟩; have hdd9 : decide (xs.drop n = xs.drop n) = true := decide_eq_true rfl; have HRE9 := Lib.hid (HRE8.out.drewN n9); have HB9 := Lib.hid (below_drewN HB8.out n9); have HL9 := Lib.hid (HL8.out.drewN n9)))
          go_roundw
          case rel => exact ⟨k + 1, true, xs.drop n, by omega, by go_num, rfl, HRE9.out, (fun _ => HL9.out), HO.out.drop n, by omega, HB9.out⟩
          case measure => simp [intOf]; omega
      · have hnone : (!good) = true ∨ s.size < 0 ∨ (xs.length : Int) < s.size := by
          rcases good with _ | _
          · exact .inl rfl
          · right
            simp only [true_and] at hcase
            omega
        have HNR := Lib.hid (rraw_none g b0 xs (!good) s.size _ HRE4.out hnone)
        have HNT := Lib.hid (take_none g b0 xs (!good) s.size _ HRE4.out hnone)
        have hways : good = false ∨ (good = true ∧ ¬ 0 ≤ wrap64 s.size) ∨ (good = true ∧ 0 ≤ wrap64 s.size ∧ ¬ wrap64 s.size ≤ xs.length) := by
          rw [HWR.out]
          rcases good with _ | _
          · exact .inl rfl
          · right
            simp only [true_and] at hcase ⊢
            omega
        clear hcase hnone
        rcases his : s.is with _ | _
        · rw [his] at c3 HNR HNT HFB
          clear his
          rcases hways with rfl | ⟨rfl, hw1⟩ | ⟨rfl, hw1, hw2⟩
          case' inr.inr => obtain ⟨A6, c6, rfl, -, -, -⟩ := (HLF.out rfl).sl
          all_goals
            go_wp2_with fail
            go_loopw [12, 13] (fun v i wv => v = .int .u64 0 ∧ i = .int .i64 (-1) ∧ wv = _) (fun _ _ _ => 0)
            case atStart => exact ⟨rfl, rfl, rfl⟩
            case round =>
              obtain ⟨rfl, rfl, rfl⟩ := hrel
              go_wp2_with (first
                | (go_at_call 13; rw [HWR.out]; refine HNT.out.mono ?_; rintro e w5 ⟨rfl, hre5, hf5⟩; have HRE5 := Lib.hid hre5; have HB5 := Lib.hid (HFB.out _ hf5); clear hre5 hf5 HNT)
                | (go_at_call 14; refine (good_ok g b0 xs true _ HRE5.out).mono ?_; rintro e w7 ⟨rfl, rfl⟩)
                | (go_at_call 15; refine (rest_none g b0 xs _ HRE5.out).mono ?_; rintro e w8 ⟨rfl, rfl⟩))
              go_roundw
              case rel => exact ⟨k + 1, false, xs, by omega, by go_num, rfl, HRE5.out, (fun e => by cases e), HO.out, hxl, HB5.out⟩
              case measure => simp [intOf]; omega
        · rw [his] at c3 HNR HNT HFB
          clear his
          rcases hways with rfl | ⟨rfl, hw1⟩ | ⟨rfl, hw1, hw2⟩
          case' inr.inr => obtain ⟨A6, c6, rfl, -, -, -⟩ := (HLF.out rfl).sl
          all_goals
            go_wp2_with (first
              | (go_at_call 17; rw [HWR.out]; refine HNR.out.mono ?_; rintro e w5 ⟨rfl, hre5, hf5⟩; have HRE5 := Lib.hid hre5; have HB5 := Lib.hid (HFB.out _ hf5); clear hre5 hf5 HNR)
              | (go_at_call 10; refine (equalb_ok none none 0 0 [] [] _ (Rd.nil _ _) (Rd.nil _ _) (by simp)).mono ?_; rintro e w6 ⟨rfl, n6, rfl⟩; have hdd : decide (([] : List Int) = []) = true := rfl; have HRE6 := Lib.hid (HRE5.out.drewN n6); have HB6 := Lib.hid (below_drewN HB5.out n6); clear HRE5 HB5)
              | (go_at_call 14; refine (good_ok g b0 xs true _ HRE6.out).mono ?_; rintro e w7 ⟨rfl, rfl⟩)
              | (go_at_call 15; refine (rest_none g b0 xs _ HRE6.out).mono ?_; rintro e w8 ⟨rfl, rfl⟩))
            go_roundw
            case rel => exact ⟨k + 1, false, xs, by omega, by go_num, rfl, HRE6.out, (fun e => by cases e), HO.out, hxl, HB6.out⟩
            case measure => simp [intOf]; omega
    · obtain rfl : k = l.length := by omega
      go_wp2
      go_ret
      exact ⟨rfl, hB⟩
theorem packTakes_true (a0 : Option Addr) (len0 cap0 : Nat) (z0 : List Int) (A : Option Addr) (len c : Nat) (w : World) (h0 : IsB w a0 len0 cap0 z0)
    (h : len ≤ maxLen ∧ ∀ i, i < len → ∃ x, A = some x ∧ ∃ (c0 : Int) (c1 : Int) (a2 : Option Addr) (l2 k2 : Nat) (z2 : List Int) (c3 : Bool), w.cell? (x.add (i * 4 + 0)) = some (.int .i8 c0) ∧ w.cell? (x.add (i * 4 + 1)) = some (.int .u64 c1) ∧ w.cell? (x.add (i * 4 + 2)) = some (.slice a2 l2 k2) ∧ w.cell? (x.add (i * 4 + 3)) = some (.bool c3) ∧
      (Lit.int .i8 c0).wf = true ∧ (Lit.int .u64 c1).wf = true ∧ IsB w a2 l2 k2 z2) :
    Calls Try.prog 6 #[.slice a0 len0 cap0, .slice A len c] w fun e w' => e = .returned (.bool true) ∧ Below w.heap.size w w' := by
  obtain ⟨l, rfl, ra⟩ := argP_of h
  have hm0 : len0 ≤ maxLen := by
    rcases h0 with ⟨-, e, -, -⟩ | ⟨x, -, h1, h2, -⟩
    · rw [e]; exact Nat.zero_le _
    · exact Nat.le_trans h1 h2
  obtain ⟨raw, rfl, rb, ob, -⟩ := isB_of h0
  exact takes_walk a0 cap0 raw A c l w rb ob (by unfold maxLen at hm0; omega) ra (by have := h.1; unfold maxLen at this; omega)
end Go.Proofs.Ytfaopjbjoiclfaa
