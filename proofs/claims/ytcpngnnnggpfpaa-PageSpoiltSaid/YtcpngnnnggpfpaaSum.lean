/- The walks of the two sums: what both compute is CRC-32. No further condition. -/
import Derived.Test.YtcpngnnnggpfpaaByt
import Derived.Test.YtcpngnnnggpfpaaCrc
import Derived.Laws.BitsAllLaws
namespace Go.Proofs.Ytcpngnnnggpfpaa
open Go.RowKit
open CrcMath hiding bits
attribute [local go_sem ↓] Go.wp_at_zero Go.wp_at_succ

/-- The sum of bytes. -/
def cs (l : List Int) : Nat := crc 4294967295 (l.map Int.toNat) ^^^ 4294967295
theorem nat_in {l : List Int} (h : Oct l) : ∀ x ∈ l.map Int.toNat, x < 256 := fun x hx => by
  obtain ⟨y, hy, rfl⟩ := List.mem_map.1 hx
  have := h y hy
  omega
theorem cs_lt {l : List Int} (h : Oct l) : cs l < 4294967296 := Nat.xor_lt_two_pow (n := 32) (crc_lt (by decide) _ (nat_in h)) (by decide)
def cr (l : List Int) : Nat := crc 4294967295 (l.map Int.toNat)
theorem cr_lt {l : List Int} (h : Oct l) : cr l < 4294967296 := crc_lt (by decide) _ (nat_in h)
theorem cr_snoc (l : List Int) (x : Int) : cr (l ++ [x]) = CrcMath.bits 8 (cr l ^^^ x.toNat) := by
  unfold cr
  rw [List.map_append, crc_append]
  rfl
theorem and_one_ {c : Nat} (h : c < 4294967296) : Go.bits .and .u32 (c : Int) 1 = ((c % 2 : Nat) : Int) := by
  rw [show (1 : Int) = ((1 : Nat) : Int) from rfl, u32_and_nat c 1 h (by omega), Nat.and_one_is_mod]
set_option maxHeartbeats 3200000 in
theorem sof_ok (A : Option Addr) (c : Nat) (xs : List Int) (w : World) (hr : Rd w A (byv xs)) (hx : xs.length ≤ 10000000) (ho : Oct xs) :
    Calls Try.prog 46 #[.slice A xs.length c] w fun e w' => e = .returned (.int .u32 (cs xs)) ∧ w' = w := by
  have HR := Lib.hid hr
  have HO := Lib.hid ho
  clear hr ho
  go_enter Try.func46, Try.ntmps46
  go_wp2
  go_loopw [3, 5, 6, 9] (fun a _ _ i wr => wr = w ∧ ∃ k : Nat, k ≤ xs.length ∧ i = .int .i64 k ∧ a = .int .u32 (cr (xs.take k))) (fun _ _ _ i _ => xs.length - (intOf i).toNat)
  case atStart => exact ⟨rfl, 0, by omega, rfl, rfl⟩
  case round =>
    obtain ⟨rfl, k, hk, rfl, rfl⟩ := hrel
    have hlt32 := cr_lt (HO.out.take k)
    by_cases hlt : k < xs.length
    · obtain ⟨x, hx1⟩ : ∃ x, xs[k]? = some x := ⟨_, List.getElem?_eq_getElem hlt⟩
      obtain ⟨ad, rfl, hc⟩ := HR.out k (.int .u8 x) (by simp [byv, hx1])
      have hxo := HO.out x (List.mem_of_getElem? hx1)
      obtain ⟨y, rfl⟩ := Int.eq_ofNat_of_zero_le hxo.1
      have hsn := cr_snoc (xs.take k) y
      rw [← take_snoc_pk hx1] at hsn
      generalize cr (xs.take k) = a at hsn hlt32 ⊢
      have hxr : Go.bits .xor .u32 (a : Int) (y : Int) = ((a ^^^ y : Nat) : Int) := u32_xor_nat _ _ hlt32 (by omega)
      have hyl : a ^^^ y < 4294967296 := Nat.xor_lt_two_pow (n := 32) hlt32 (by omega)
      rw [Int.toNat_natCast] at hsn
      have HS := Lib.hid hsn
      have hwy : IntKind.u32.wrap (y : Int) = y := by rw [IntKind.wrap_u32]; omega
      clear hx1 hsn
      go_wp2
      clear hxr
      generalize a ^^^ y = b at HS hyl ⊢
      go_loopw [3, 6, 17] (fun d _ j wi => wi = wr ∧ ∃ m : Nat, m ≤ 8 ∧ j = .int .i64 m ∧ d = .int .u32 (CrcMath.bits m b : Nat)) (fun _ _ j _ => 8 - (intOf j).toNat)
      case atStart => exact ⟨rfl, 0, by omega, rfl, rfl⟩
      case round =>
        obtain ⟨rfl, m, hm, rfl, rfl⟩ := hrel
        have hd := CrcMath.bits_lt m hyl
        by_cases hm8 : m < 8
        · have HB := Lib.hid (CrcMath.bits_succ m b)
          generalize CrcMath.bits m b = d at HB hd ⊢
          have ha := and_one_ hd
          have hx2 := Lib.hid (show Go.bits .xor .u32 ((d : Int) / 2) 3988292384 = ((d / 2 ^^^ P : Nat) : Int) from u32_xor_nat (d / 2) 3988292384 (by omega) (by decide))
          by_cases e : d % 2 = 1
          · rw [e] at ha
            have hbs : bs d = d / 2 ^^^ P := if_pos e
            have HBS := Lib.hid hbs
            clear hbs
            go_wp2
            go_roundw
            case rel => exact ⟨trivial, m + 1, by omega, by go_num, by rw [HB.out, HBS.out, ← hx2.out]⟩
            case measure => simp [intOf]; omega
          · have e0 : d % 2 = 0 := by omega
            rw [e0] at ha
            have hbs : bs d = d / 2 := if_neg e
            have HBS := Lib.hid hbs
            clear hbs
            go_wp2
            go_roundw
            case rel => exact ⟨trivial, m + 1, by omega, by go_num, by rw [HB.out, HBS.out]; rfl⟩
            case measure => simp [intOf]; omega
        · obtain rfl : m = 8 := by omega
          go_wp2
          go_roundw
          case rel => exact ⟨trivial, k + 1, by omega, by go_num, by rw [HS.out]⟩
          case measure => simp [intOf]; omega
    · obtain rfl : k = xs.length := by omega
      have hxx : Go.bits .xor .u32 ((4294967295 : Nat) : Int) ((cr xs : Nat) : Int) = ((cs xs : Nat) : Int) := by
        rw [u32_xor_nat _ _ (by decide) (cr_lt HO.out), Nat.xor_comm]; rfl
      rw [List.take_length]
      go_wp2
      go_ret
      exact ⟨by rw [← hxx]; rfl, rfl⟩
/-- The document's rest after so many bits. -/
def refI (l : List Nat) (i : Nat) : Nat := refByte (ref 4294967295 (l.take (i / 8))) (l.getD (i / 8) 0) (i % 8)
theorem refI_zero (l : List Nat) : refI l 0 = 4294967295 := rfl
theorem ref_lt {r : Nat} (h : r < 2 ^ 32) (l : List Nat) : ref r l < 2 ^ 32 := by
  induction l generalizing r with
  | nil => exact h
  | cons x t ih => rw [ref_cons]; exact ih (refByte_lt h x 8)
theorem refI_lt (l : List Nat) (i : Nat) : refI l i < 4294967296 := refByte_lt (ref_lt (by decide) _) _ _
theorem refI_succ (l : List Nat) (i : Nat) (h : i / 8 < l.length) : refI l (i + 1) = rs (refI l i) (l.getD (i / 8) 0 / 2 ^ (i % 8) % 2) := by
  unfold refI
  by_cases h7 : i % 8 = 7
  · have e1 : (i + 1) / 8 = i / 8 + 1 := by omega
    have e2 : (i + 1) % 8 = 0 := by omega
    rw [e1, e2, h7, List.take_add_one]
    show ref _ _ = _
    unfold ref
    rw [List.foldl_append, List.getElem?_eq_getElem h, List.getD_eq_getElem?_getD, List.getElem?_eq_getElem h]
    rfl
  · have e1 : (i + 1) / 8 = i / 8 := by omega
    have e2 : (i + 1) % 8 = i % 8 + 1 := by omega
    rw [e1, e2]
    rfl
theorem refI_all (l : List Nat) (i : Nat) (h : i = 8 * l.length) : refI l i = ref 4294967295 l := by
  subst h
  unfold refI
  rw [show 8 * l.length / 8 = l.length by omega, show 8 * l.length % 8 = 0 by omega, List.take_length]
  rfl
theorem cs_ref {l : List Int} (h : Oct l) : revN 32 (ref 4294967295 (l.map Int.toNat)) ^^^ 4294967295 = cs l := by
  unfold cs
  rw [ref_rev (by decide) _ (nat_in h), rev_ones]
theorem or_bit (y b : Nat) (h : b < 2) : (y * 2) ||| b = y * 2 + b := by
  apply Nat.eq_of_testBit_eq
  intro q
  rw [Nat.testBit_or]
  rcases (show b = 0 ∨ b = 1 by omega) with rfl | rfl
  · simp
  · cases q with
    | zero => simp [Nat.testBit_zero]
    | succ q =>
      rw [Nat.testBit_succ, Nat.testBit_succ, Nat.testBit_succ, Nat.mul_div_cancel _ (by decide), show (y * 2 + 1) / 2 = y by omega]
      simp
theorem bit_cast (y j : Nat) : ((y / 2 ^ j % 2 : Nat) : Int) = (y : Int) / 2 ^ j % 2 := by rw [Int.natCast_emod, Int.natCast_ediv, Int.natCast_pow]; rfl
theorem rs_eq (r y j : Nat) (h : ((r : Int) / 2147483648 != (y : Int) / 2 ^ j % 2) = false) : (r : Int) * 2 % 4294967296 = ((rs r (y / 2 ^ j % 2) : Nat) : Int) := by
  have e : (r : Int) / 2147483648 = (y : Int) / 2 ^ j % 2 := bne_eq_false_iff_eq.1 h
  have e2 : r / 2147483648 = y / 2 ^ j % 2 := Int.ofNat_inj.1 ((show ((r / 2147483648 : Nat) : Int) = _ from e).trans (bit_cast y j).symm)
  unfold rs
  rw [if_pos e2]
  rfl
theorem rs_ne (r y j : Nat) (h : ((r : Int) / 2147483648 != (y : Int) / 2 ^ j % 2) = true) : Go.bits .xor .u32 ((r : Int) * 2 % 4294967296) 79764919 = ((rs r (y / 2 ^ j % 2) : Nat) : Int) := by
  have e : ¬ (r : Int) / 2147483648 = (y : Int) / 2 ^ j % 2 := bne_iff_ne.1 h
  have e2 : ¬ r / 2147483648 = y / 2 ^ j % 2 := fun q => e ((show (r : Int) / 2147483648 = ((r / 2147483648 : Nat) : Int) from rfl).trans ((congrArg Nat.cast q).trans (bit_cast y j)))
  unfold rs
  rw [if_neg e2]
  exact u32_xor_nat (r * 2 % 4294967296) 79764919 (by omega) (by decide)
set_option maxHeartbeats 3200000 in
theorem rof_ok (A : Option Addr) (c : Nat) (xs : List Int) (w : World) (hr : Rd w A (byv xs)) (hx : xs.length ≤ 10000000) (ho : Oct xs) :
    Calls Try.prog 41 #[.slice A xs.length c] w fun e w' => e = .returned (.int .u32 (cs xs)) ∧ w' = w := by
  have HR := Lib.hid hr
  have HO := Lib.hid ho
  have HC := Lib.hid (cs_ref ho)
  clear hr ho
  go_enter Try.func41, Try.ntmps41
  go_wp2
  go_loopw [3, 4, 5, 6] (fun a i _ _ wr => wr = w ∧ ∃ k : Nat, k ≤ 8 * xs.length ∧ i = .int .i64 k ∧ a = .int .u32 (refI (xs.map Int.toNat) k)) (fun _ i _ _ _ => 8 * xs.length - (intOf i).toNat)
  case atStart => exact ⟨rfl, 0, by omega, rfl, rfl⟩
  case round =>
    obtain ⟨rfl, k, hk, rfl, rfl⟩ := hrel
    have hrl := refI_lt (xs.map Int.toNat) k
    by_cases hlt : k < 8 * xs.length
    · have hk8 : k / 8 < xs.length := by omega
      obtain ⟨x, hx1⟩ : ∃ x, xs[k / 8]? = some x := ⟨_, List.getElem?_eq_getElem hk8⟩
      obtain ⟨ad, rfl, hc⟩ := HR.out (k / 8) (.int .u8 x) (by simp [byv, hx1])
      have hxo := HO.out x (List.mem_of_getElem? hx1)
      obtain ⟨y, rfl⟩ := Int.eq_ofNat_of_zero_le hxo.1
      have hsn := refI_succ (xs.map Int.toNat) k (by simpa using hk8)
      rw [List.getD_eq_getElem?_getD, List.getElem?_map, hx1] at hsn
      simp only [Option.map_some, Option.getD_some, Int.toNat_natCast] at hsn
      obtain ⟨r, hr⟩ : ∃ r, r = refI (xs.map Int.toNat) k := ⟨_, rfl⟩
      rw [← hr] at hsn hrl ⊢
      have HS := Lib.hid hsn
      clear hr hsn hx1
      have hd : (k : Int).tdiv 8 = ((k / 8 : Nat) : Int) := by rw [Int.tdiv_eq_ediv_of_nonneg (by omega)]; omega
      go_wp2
      all_goals
        go_roundw
        case rel => exact ⟨trivial, k + 1, by omega, by go_num, by rw [HS.out]; first | rw [rs_eq r y (k % 8) (by assumption)] | rw [rs_ne r y (k % 8) (by assumption)]⟩
        case measure => simp [intOf]; omega
    · obtain rfl : k = 8 * xs.length := by omega
      have hal := refI_all (xs.map Int.toNat) (8 * xs.length) (by simp)
      rw [hal] at hrl ⊢
      have HC2 := HC
      clear hal HC
      generalize ref 4294967295 (xs.map Int.toNat) = r at HC2 hrl ⊢
      go_wp2
      go_loopw [7, 8] (fun a i wi => wi = wr ∧ ∃ k : Nat, k ≤ 32 ∧ i = .int .i64 k ∧ a = .int .u32 (revN k r)) (fun _ i _ => 32 - (intOf i).toNat)
      case atStart => exact ⟨rfl, 0, by omega, rfl, rfl⟩
      case round =>
        obtain ⟨rfl, k, hk, rfl, rfl⟩ := hrel
        by_cases hlt : k < 32
        · have hv := revN_lt k r
          have hp : (2 : Nat) ^ (k + 1) ≤ 2 ^ 32 := Nat.pow_le_pow_right (by decide) (by omega)
          rw [Nat.pow_succ] at hp
          have HS := Lib.hid (revN_succ k r)
          have hm := Nat.mod_lt (r / 2 ^ k) (show 0 < 2 by decide)
          have hor : Go.bits .or .u32 ((revN k r : Nat) * 2) (((r / 2 ^ k % 2 : Nat) : Int)) = ((revN (k + 1) r : Nat) : Int) := by
            rw [HS.out, ← or_bit _ _ hm]
            exact u32_or_nat (revN k r * 2) (r / 2 ^ k % 2) (by omega) (by omega)
          generalize revN k r = v at HS hv hor ⊢
          have HOR := Lib.hid hor
          have hv2 : v * 2 < 4294967296 := by omega
          clear hp hm hv hor
          go_wp2
          go_roundw
          case rel => exact ⟨trivial, k + 1, by omega, by go_num, by rw [← HOR.out, Int.tmod_eq_emod_of_nonneg (Int.ediv_nonneg (Int.natCast_nonneg _) (Int.pow_nonneg (by decide)))]; rfl⟩
          case measure => simp [intOf]; omega
        · obtain rfl : k = 32 := by omega
          have hv := revN_lt 32 r
          have hxx : Go.bits .xor .u32 ((revN 32 r : Nat) : Int) 4294967295 = ((cs xs : Nat) : Int) := by
            rw [← HC2.out]
            exact u32_xor_nat (revN 32 r) 4294967295 (by omega) (by decide)
          generalize revN 32 r = v at hxx ⊢
          have HX := Lib.hid hxx
          clear hxx hv
          go_wp2
          go_ret
          exact ⟨congrArg (fun z => Ending.returned (Value.int .u32 z)) HX.out, rfl⟩
end Go.Proofs.Ytcpngnnnggpfpaa
