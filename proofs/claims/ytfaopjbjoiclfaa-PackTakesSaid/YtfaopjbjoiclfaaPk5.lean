/- The walks of chapter 02's Awake and PackApart. No further condition. -/
import Derived.Test.YtfaopjbjoiclfaaPk4
namespace Go.Proofs.Ytfaopjbjoiclfaa
open Go.RowKit

theorem Re.fr {w w' : World} {g h : Nat} {xs : List Int} {bad : Bool} {S : Nat → Prop} (k : Re w g h xs bad) (f : Fr S w w') (hg : ¬ S g) (hh : ¬ S h) : Re w' g h xs bad := by
  obtain ⟨o, c, k1, k2, k3, k4⟩ := k.form
  exact ⟨o, c, k1.fr f hg, k2.fr f (fun ad e => by injection e with e; subst e; exact hh), k3, k4⟩
theorem Wr.new (w : World) (B g : Nat) (hg : w.heap.size = g) : Wr (w.alloc (.cells #[.slice none 0 0] 26)) B g (.slice none 0 0) [] := ⟨Blk.new_ w _ _ hg, World.ownsRow_nil _ _ _ _⟩
theorem Rd.blk_all {w : World} {g : Nat} {t : TypeId} {xs : List Value} (k : Blk w g t xs.toArray) : Rd w (some ⟨g, 0, none⟩) xs := by
  have := Rd.of_blk k 0 xs.length
  rw [List.drop_zero, List.take_of_length_le (by simp)] at this
  simpa using this
theorem Re.drewN {w : World} {g h : Nat} {xs : List Int} {bad : Bool} (k : Re w g h xs bad) (n : Nat) : Re (w.drewN n) g h xs bad := k.later (below_drewN (Below.refl _ _) n)
theorem WrTo.below {w w' : World} {B g : Nat} {v v' : Value} {xs ys : List Int} (k : WrTo w w' B g v v' ys) (hw : Wr w B g v xs) (hg : B ≤ g) : Below B w w' :=
  k.fr.toBelow (Nat.le_of_lt (Nat.lt_of_le_of_lt hg hw.own.lt)) fun b hb hs => by
    rcases hs with rfl | hs
    · omega
    · have := (hw.row.lt b hs).1
      omega
theorem Wr.drewN {w : World} {B g : Nat} {v : Value} {xs : List Int} (k : Wr w B g v xs) (n : Nat) : Wr (w.drewN n) B g v xs := k.later (below_drewN (Below.refl _ _) n)
set_option maxHeartbeats 3200000 in
theorem awake_ok (w : World) : Calls Try.prog 7 #[] w fun e w' => e = .returned (.bool true) ∧ Below w.heap.size w w' := by
  have hW := Wr.new w w.heap.size w.heap.size rfl
  have hB0 := (Below.refl w.heap.size w).alloc (Nat.le_refl _) (.cells #[.slice none 0 0] 26)
  have hle : le 2 258 = [2, 1] := by decide
  have hpad : pad [2, 1] (0 : Int).toNat = [2, 1] := by decide
  have hnum : num (([2, 1] : List Int).take 2 |>.take 8) = 258 := by decide
  have HW := Lib.hid hW
  have HB0 := Lib.hid hB0
  have HLE := Lib.hid hle
  have HPAD := Lib.hid hpad
  have HNUM := Lib.hid hnum
  clear hW hB0 hle hpad hnum
  go_enter Try.func7, Try.ntmps7
  go_wp2_with (first
    | (go_at_call 12; refine (read_ok (some ⟨w.heap.size + 1, 0, none⟩) 2 [2, 1] _ (Rd.blk_all (Blk.new_ _ _ _ (by simp))) (by simp)).mono ?_; rintro e w1 ⟨g, h, rfl, hg, hh, hre, hb⟩; have hg2 : w.heap.size < g := (by simp at hg; omega); have hh2 : w.heap.size < h := (by simp at hh; omega); clear hg hh; have hB1 : Below w.heap.size w w1 := (HB0.out.alloc (by simp) (.cells #[.int .u8 2, .int .u8 1] 5)).trans (hb.mono (by simp; omega)); have HW1 : Hid (Wr w1 w.heap.size w.heap.size (.slice none 0 0) []) := Lib.hid (HW.out.later (((Below.refl _ _).alloc (Nat.le_refl _) (.cells #[.int .u8 2, .int .u8 1] 5)).trans (hb.mono (by simp))));
       have HRE := Lib.hid hre; have HB1 := Lib.hid hB1; clear hre hB1 hb)
    | (go_at_call 8; refine (put_some w.heap.size w.heap.size (.slice none 0 0) [] 2 258 w1 HW1.out (by decide) (by decide) (by decide) (by simp) HB1.out.size).mono ?_; rintro e w2 ⟨rfl, v', hwt⟩; have HRE2 := Lib.hid (HRE.out.fr hwt.fr (by simp [Value.ownBlock]; omega) (by simp [Value.ownBlock]; omega)); have HB2 := Lib.hid (HB1.out.trans (hwt.below HW1.out (Nat.le_refl _))); have HW2 : Hid (Wr w2 w.heap.size w.heap.size v' [2, 1]) := Lib.hid (by have := hwt.wr; rw [HLE.out] at this; exact this); clear hwt)
    | (go_at_call 9; refine (bytes_ok w.heap.size w.heap.size v' [2, 1] 0 w2 HW2.out (by simp) (by decide)).mono ?_; rintro e w3 ⟨r, rfl, hown, hb⟩; rw [HPAD.out] at hown; obtain ⟨A3, c3, rfl, -, hrd⟩ := own_form hown; have HRE3 := Lib.hid (HRE2.out.later hb); have HB3 := Lib.hid (HB2.out.trans (hb.mono HB2.out.size)); have HRD := Lib.hid hrd; clear hown hb hrd)
    | (go_at_call 10; refine (equalb_ok A3 (some ⟨w3.heap.size, 0, none⟩) c3 2 [2, 1] [2, 1] _ (HRD.out.alloc _) (Rd.blk_all (Blk.new_ _ _ _ rfl)) (by simp)).mono ?_; rintro e w4 ⟨rfl, n4, rfl⟩; have hd : decide (([2, 1] : List Int) = [2, 1]) = true := rfl; have HRE4 : Hid (Re (World.drewN (w3.alloc (.cells #[.int .u8 2, .int .u8 1] 5)) n4) g h [2, 1] false) := Lib.hid ((HRE3.out.later ((Below.refl _ _).alloc (Nat.le_refl _) _)).drewN n4); have HB4 : Hid (Below w.heap.size w (World.drewN (w3.alloc (.cells #[.int .u8 2, .int .u8 1] 5)) n4)) := Lib.hid (below_drewN (HB3.out.alloc HB3.out.size _) n4))
    | (go_at_call 13; refine (take_ok g h [2, 1] 2 _ HRE4.out (by simp) (by simp) (by intro x hx; simp at hx; omega)).mono ?_; rintro e w5 ⟨rfl, hre, hfr⟩; rw [HNUM.out]; have HRE5 := Lib.hid hre; have HB5 := Lib.hid (HB4.out.trans (hfr.toBelow HB4.out.size fun b hb e => by omega)); clear hre hfr)
    | (go_at_call 14; refine (good_ok g h _ false _ HRE5.out).mono ?_; rintro e w6 ⟨rfl, rfl⟩))
  go_ret
  exact ⟨rfl, HB5.out⟩

/-! ### numbers and their bytes -/
theorem oct_le (k n : Nat) : Oct (le k n) := fun x hx => by
  obtain ⟨i, _, rfl⟩ := List.mem_map.1 hx
  unfold byteAt
  omega
theorem num_le (k n : Nat) : num (le k n) = ((n % 256 ^ k : Nat) : Int) := by
  induction k with
  | zero => simp [le, num, Nat.mod_one]
  | succ k ih =>
    rw [le_snoc, num_snoc, ih, le_len, Nat.mod_pow_succ, Int.natCast_add, Int.natCast_mul, Int.natCast_pow, byteAt, Int.mul_comm]
    rfl
theorem num_inj {l m : List Int} (hl : Oct l) (hm : Oct m) (h : l.length = m.length) (e : num l = num m) : l = m := by
  induction l generalizing m with
  | nil =>
    rcases m with _ | ⟨y, m⟩
    · rfl
    · simp at h
  | cons x l ih =>
    rcases m with _ | ⟨y, m⟩
    · simp at h
    · have h1 := hl x (by simp)
      have h2 := hm y (by simp)
      simp only [num] at e
      obtain rfl : x = y := by omega
      rw [ih (m := m) (fun z hz => hl z (by simp [hz])) (fun z hz => hm z (by simp [hz])) (by simpa using h) (by omega)]
theorem le_eq (k a c : Nat) : le k a = le k c ↔ a % 256 ^ k = c % 256 ^ k := by
  constructor
  · intro h
    have := congrArg num h
    rw [num_le, num_le] at this
    exact Int.ofNat_inj.1 this
  · intro h
    exact num_inj (oct_le _ _) (oct_le _ _) (by rw [le_len, le_len]) (by rw [num_le, num_le, h])
theorem apart_eq (a b c d : Nat) : decide (le 2 a ++ le 4 b = le 2 c ++ le 4 d) = ((IntKind.u16.wrap (a : Int) == IntKind.u16.wrap (c : Int)) && ((b : Int) % 4294967296 == (d : Int) % 4294967296)) := by
  have h1 : (le 2 a ++ le 4 b = le 2 c ++ le 4 d) ↔ (le 2 a = le 2 c ∧ le 4 b = le 4 d) := ⟨fun h => List.append_inj h (by rw [le_len, le_len]), fun h => by rw [h.1, h.2]⟩
  rw [le_eq, le_eq] at h1
  have e1 : IntKind.u16.wrap (a : Int) = ((a % 256 ^ 2 : Nat) : Int) := by simp [IntKind.wrap, IntKind.bits, IntKind.signed]
  have e2 : IntKind.u16.wrap (c : Int) = ((c % 256 ^ 2 : Nat) : Int) := by simp [IntKind.wrap, IntKind.bits, IntKind.signed]
  have e3 : (b : Int) % 4294967296 = ((b % 256 ^ 4 : Nat) : Int) := by omega
  have e4 : (d : Int) % 4294967296 = ((d % 256 ^ 4 : Nat) : Int) := by omega
  rw [e1, e2, e3, e4]
  by_cases p : a % 256 ^ 2 = c % 256 ^ 2 <;> by_cases q : b % 256 ^ 4 = d % 256 ^ 4 <;> simp only [h1, p, q] <;> simp <;> omega
theorem own_far {w : World} {base : Nat} {e : TypeId} {size n m c g : Nat} {t : TypeId} {cs : Array Value} {A : Option Addr} {xs : List Value} (k : w.ownsRow base e size (.slice A n c) m xs) (kb : Blk w g t cs) (hne : e ≠ t) : ∀ ad, A = some ad → ad.block ≠ g := by
  intro ad hA hg
  have h1 := own_blk_ne k kb hne
  rcases k.2 with ⟨h, -⟩ | ⟨x, cap, cur, h, -⟩
  · injection h with h
    rw [hA] at h
    cases h
  · injection h with h
    rw [hA] at h
    injection h with h
    apply h1
    rw [hA, h]
    rw [h] at hg
    rw [← hg]
    rfl
set_option maxHeartbeats 6400000 in
theorem apart_walk (a b c d : Nat) (w : World) (ha : a < 18446744073709551616) (hb : b < 18446744073709551616) (hc : c < 18446744073709551616) (hd : d < 18446744073709551616) :
    Calls Try.prog 3 #[.int .u64 a, .int .u64 b, .int .u64 c, .int .u64 d] w fun e w' => e = .returned (.bool true) ∧ Below w.heap.size w w' := by
  have haw := awake_ok w
  have hap := apart_eq a b c d
  have hp := fun x y : Nat => (pad_long (xs := le 2 x ++ le 4 y) (least := (0 : Int).toNat) (by simp))
  have hl := fun x y : Nat => (show (le 2 x ++ le 4 y).length = 6 by rw [List.length_append, le_len, le_len])
  obtain ⟨r, hr⟩ : ∃ r, r = decide (le 2 a ++ le 4 b = le 2 c ++ le 4 d) := ⟨_, rfl⟩
  rw [← hr] at hap
  have HP := Lib.hid hp
  have HL := Lib.hid hl
  have HR := Lib.hid hr
  have HAW := Lib.hid haw
  clear hp hl hr haw
  rcases Bool.eq_false_or_eq_true (IntKind.u16.wrap (a : Int) == IntKind.u16.wrap (c : Int)) with h1 | h1 <;> rcases Bool.eq_false_or_eq_true ((b : Int) % 4294967296 == (d : Int) % 4294967296) with h2 | h2
  all_goals
    rw [h1, h2] at hap
    simp only [Bool.and_self, Bool.and_true, Bool.and_false] at hap
    subst hap
    go_enter Try.func3, Try.ntmps3
    go_wp2_with (first
      | (go_at_call 7; refine HAW.out.mono ?_; rintro e w1 ⟨rfl, hb1⟩; have HB1 := Lib.hid hb1; have HA0 := Lib.hid ((Wr.new w1 w.heap.size w1.heap.size rfl).later ((Below.refl _ _).alloc (Nat.le_refl _) (.cells #[.slice none 0 0] 26))); have HC0 := Lib.hid (Wr.new (w1.alloc (.cells #[.slice none 0 0] 26)) w.heap.size (w1.heap.size + 1) (by simp)); have HB0 := Lib.hid ((hb1.alloc hb1.size (.cells #[.slice none 0 0] 26)).alloc (by have := hb1.size; simp; omega) (.cells #[.slice none 0 0] 26)); have hs1 := hb1.size; clear hb1)
      | (go_at_call 8; refine (put_some w.heap.size w1.heap.size (.slice none 0 0) [] 2 a _ HA0.out (by decide) (by decide) ha (by simp) HB0.out.size).mono ?_; rintro e w2 ⟨rfl, va, ka⟩; rw [List.nil_append] at ka; have HA2 := Lib.hid ka; have HA0' := HA0; clear HA0 ka)
      | (go_at_call 8; refine (put_some w.heap.size w1.heap.size va (le 2 a) 4 b _ HA2.out.wr (by decide) (by decide) hb (by rw [le_len]; decide) (Nat.le_trans HB0.out.size HA2.out.fr.size)).mono ?_; rintro e w3 ⟨rfl, vb, kb⟩; have HA3 := Lib.hid (HA2.out.trans kb); have HB3 := Lib.hid (HB0.out.trans (HA3.out.below HA0'.out hs1)); have HC3 := Lib.hid (HC0.out.fr HA3.out.fr (by simp [Value.ownBlock]) (fun x e => by cases e)); clear kb HA2)
      | (go_at_call 9; refine (bytes_ok w.heap.size w1.heap.size vb (le 2 a ++ le 4 b) 0 _ HA3.out.wr (by rw [HL.out]; decide) (by decide)).mono ?_; rintro e w4 ⟨rx, rfl, hown, hb4⟩; rw [HP.out a b, HL.out a b] at hown; obtain ⟨A4, c4, rfl, -, hrd⟩ := own_form hown; have HB4 := Lib.hid (HB3.out.trans (hb4.mono HB3.out.size)); have HC4 := Lib.hid (HC3.out.later hb4); have HRX := Lib.hid hrd; have HOX := Lib.hid hown; clear hown hrd hb4 HA3)
      | (go_at_call 8; refine (put_some w.heap.size (w1.heap.size + 1) (.slice none 0 0) [] 2 c _ HC4.out (by decide) (by decide) hc (by simp) HB4.out.size).mono ?_; rintro e w5 ⟨rfl, vc, kc⟩; rw [List.nil_append] at kc; have HC5 := Lib.hid kc; have HC4' := HC4; clear kc HC4)
      | (go_at_call 8; refine (put_some w.heap.size (w1.heap.size + 1) vc (le 2 c) 4 d _ HC5.out.wr (by decide) (by decide) hd (by rw [le_len]; decide) (Nat.le_trans HB4.out.size HC5.out.fr.size)).mono ?_; rintro e w6 ⟨rfl, vd, kd⟩; have HC6 := Lib.hid (HC5.out.trans kd); have HB6 := Lib.hid (HB4.out.trans (HC6.out.below HC4'.out (by omega))); have HRX6 := Lib.hid (HRX.out.fr HC6.out.fr (fun ad e => by have h9 := own_far HOX.out HC4'.out.own (by decide) ad e; simp [Value.ownBlock]; exact h9)); clear kd HC5)
      | (go_at_call 9; refine (bytes_ok w.heap.size (w1.heap.size + 1) vd (le 2 c ++ le 4 d) 0 _ HC6.out.wr (by rw [HL.out]; decide) (by decide)).mono ?_; rintro e w7 ⟨ry, rfl, hown, hb7⟩; rw [HP.out c d, HL.out c d] at hown; obtain ⟨A7, c7, rfl, -, hrd⟩ := own_form hown; have HB7 := Lib.hid (HB6.out.trans (hb7.mono HB6.out.size)); have HRX7 := Lib.hid (HRX6.out.later hb7); have HRY := Lib.hid hrd; clear hown hrd hb7)
      | (go_at_call 10; have he := equalb_ok A4 A7 c4 c7 (le 2 a ++ le 4 b) (le 2 c ++ le 4 d) w7 HRX7.out HRY.out (by rw [HL.out]; decide); rw [HL.out, HL.out, ← HR.out] at he; refine he.mono ?_; rintro e w8 ⟨rfl, n8, rfl⟩))
    go_ret
    exact ⟨rfl, below_drewN HB7.out n8⟩
theorem u64_in_ {b : Int} (h : (Lit.int .u64 b).wf = true) : 0 ≤ b ∧ b ≤ 18446744073709551615 := by simp [Lit.wf, IntKind.min, IntKind.max, IntKind.bits, IntKind.signed] at h; omega
theorem packApart_true (a b c d : Int) (w : World) (ha : (Lit.int .u64 a).wf = true) (hb : (Lit.int .u64 b).wf = true) (hc : (Lit.int .u64 c).wf = true) (hd : (Lit.int .u64 d).wf = true) :
    Calls Try.prog 3 #[.int .u64 a, .int .u64 b, .int .u64 c, .int .u64 d] w fun e w' => e = .returned (.bool true) ∧ Below w.heap.size w w' := by
  have h1 := u64_in_ ha
  have h2 := u64_in_ hb
  have h3 := u64_in_ hc
  have h4 := u64_in_ hd
  obtain ⟨a, rfl⟩ := Int.eq_ofNat_of_zero_le h1.1
  obtain ⟨b, rfl⟩ := Int.eq_ofNat_of_zero_le h2.1
  obtain ⟨c, rfl⟩ := Int.eq_ofNat_of_zero_le h3.1
  obtain ⟨d, rfl⟩ := Int.eq_ofNat_of_zero_le h4.1
  exact apart_walk a b c d w (by omega) (by omega) (by omega) (by omega)
end Go.Proofs.Ytfaopjbjoiclfaa
