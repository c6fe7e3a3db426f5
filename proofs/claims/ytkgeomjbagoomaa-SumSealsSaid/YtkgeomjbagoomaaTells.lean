/- What sum.Of and the document's sum come to: the same number, as plain functions on lists. No condition but that the elements are bytes. -/
import Derived.Test.YtkgeomjbagoomaaQx1
import Derived.Test.YtkgeomjbagoomaaCrc
import Derived.Laws.BitsAllLaws
namespace Go.Proofs.Ytkgeomjbagoomaa.Q
open Go.RowKit Go.Proofs.YtkgeomjbagoomaaW.PrintWords Go.Proofs.YtkgeomjbagoomaaW.PrintLast Go.Proofs.YtkgeomjbagoomaaW.PrintMore CrcMath

/-- Whole numbers that are bytes. -/
def Bytes (l : List Int) : Prop := ∀ x ∈ l, 0 ≤ x ∧ x < 256
def nats (l : List Int) : List Nat := l.map Int.toNat
theorem nats_lt {l : List Int} (h : Bytes l) : ∀ x ∈ nats l, x < 256 := by
  intro x hx
  obtain ⟨y, hy, rfl⟩ := List.mem_map.1 hx
  have := h y hy
  omega
/-- The sum. -/
def sumN (l : List Int) : Nat := 4294967295 ^^^ crc 4294967295 (nats l)

theorem Bytes.wf {l : List Int} (h : ∀ x ∈ l, (Lit.int .u8 x).wf = true) : Bytes l := by
  intro x hx
  have := h x hx
  simp [Lit.wf, IntKind.min, IntKind.max, IntKind.signed, IntKind.bits] at this
  omega
theorem Bytes.take {l : List Int} (h : Bytes l) (n : Nat) : Bytes (l.take n) := fun x hx => h x (List.mem_of_mem_take hx)
theorem Bytes.app {a b : List Int} (h : Bytes a) (g : Bytes b) : Bytes (a ++ b) := fun x hx => (List.mem_append.1 hx).elim (h x) (g x)

theorem wrapS {x : Int} (h : 0 ≤ x) (g : x < 4611686018427387904) : wrap64 x = x := by unfold wrap64; omega

theorem and_one {c : Nat} (h : c < 2 ^ 32) : Go.bits .and .u32 (c : Int) 1 = ((c % 2 : Nat) : Int) := by
  rw [show (1 : Int) = ((1 : Nat) : Int) from rfl, u32_and_nat c 1 (by omega) (by omega), Nat.and_one_is_mod]

theorem l1_tells (xs : List Int) (x8 x9 : Int) (k : Nat) : ∀ (j : Nat) (c : Nat), j ≤ 8 → c < 2 ^ 32 → sum_Of.l1 (j + 1 + k) (c : Int) xs x8 x9 ((8 - j : Nat) : Int) = sum_Of.l0 k (CrcMath.bits j c : Nat) xs x8 (wrap64 (x9 + 1))
  | 0, c, _, _ => by
    rw [show 0 + 1 + k = k + 1 by omega, bits_zero]
    simp only [sum_Of.l1]
    rw [if_neg (by omega)]
  | j + 1, c, hj, hc => by
    rw [show j + 1 + 1 + k = (j + 1 + k) + 1 by omega]
    simp only [sum_Of.l1]
    rw [if_pos (by omega), and_one hc, wrapS (by omega) (by omega), show ((8 - (j + 1) : Nat) : Int) + 1 = ((8 - j : Nat) : Int) by omega]
    have hb := bs_lt hc
    have ih := l1_tells xs x8 x9 k j (bs c) (by omega) hb
    rw [bits_succ', ← ih]
    have hd : (c : Int) / 2 = ((c / 2 : Nat) : Int) := rfl
    by_cases e : c % 2 = 1
    · rw [if_pos (by omega), hd, show (3988292384 : Int) = ((P : Nat) : Int) from rfl, u32_xor_nat _ _ (by omega) (by decide)]
      congr 2
      unfold bs
      rw [if_pos e]
    · rw [if_neg (by omega), hd]
      congr 2
      unfold bs
      rw [if_neg e]

theorem nats_drop (xs : List Int) (i : Nat) (h : i < xs.length) : nats (xs.drop i) = (rd xs (i : Int)).toNat :: nats (xs.drop (i + 1)) := by
  unfold nats rd
  rw [List.drop_eq_getElem_cons h, List.map_cons]
  congr 1
  simp [List.getD_eq_getElem?_getD, List.getElem?_eq_getElem h]

theorem rd_byte {xs : List Int} (hb : Bytes xs) (i : Nat) (h : i < xs.length) : 0 ≤ rd xs (i : Int) ∧ rd xs (i : Int) < 256 := by
  have : rd xs (i : Int) = xs[i] := by unfold rd; simp [List.getD_eq_getElem?_getD, List.getElem?_eq_getElem h]
  rw [this]
  exact hb _ (List.getElem_mem h)

theorem l0_tells (xs : List Int) (hb : Bytes xs) (hl : xs.length < 1000000000000000) : ∀ (d i : Nat) (c : Nat) (k : Nat), xs.length - i = d → i ≤ xs.length → c < 2 ^ 32 → 10 * d + 1 ≤ k →
    sum_Of.l0 k (c : Int) xs (xs.length : Int) (i : Int) = some ((4294967295 ^^^ crc c (nats (xs.drop i)) : Nat) : Int)
  | 0, i, c, k, hd, hi, hc, hk => by
    obtain ⟨k, rfl⟩ : ∃ m, k = m + 1 := ⟨k - 1, by omega⟩
    simp only [sum_Of.l0]
    rw [if_neg (by omega), List.drop_eq_nil_of_le (by omega)]
    show some (Go.bits .xor .u32 ((4294967295 : Nat) : Int) (c : Int)) = _
    rw [u32_xor_nat _ _ (by omega) (by omega)]
    rfl
  | d + 1, i, c, k, hd, hi, hc, hk => by
    obtain ⟨k, rfl⟩ : ∃ m, k = (8 + 1 + m) + 1 := ⟨k - 10, by omega⟩
    have hx := rd_byte hb i (by omega)
    have hn : rd xs (i : Int) = ((rd xs (i : Int)).toNat : Int) := by omega
    simp only [sum_Of.l0]
    rw [if_pos (by omega), if_pos (by omega), if_pos (by omega), show rd xs (i : Int) % 4294967296 = ((rd xs (i : Int)).toNat : Int) by omega, u32_xor_nat _ _ (by omega) (by omega)]
    have h2 : c ^^^ (rd xs (i : Int)).toNat < 2 ^ 32 := Nat.xor_lt_two_pow hc (by omega)
    have h1 := l1_tells xs (xs.length : Int) (i : Int) k 8 (c ^^^ (rd xs (i : Int)).toNat) (by omega) h2
    rw [show ((8 - 8 : Nat) : Int) = 0 from rfl] at h1
    rw [h1, wrapS (by omega) (by omega), show (i : Int) + 1 = ((i + 1 : Nat) : Int) by omega, l0_tells xs hb hl d (i + 1) _ k (by omega) (by omega) (bits_lt 8 h2) (by omega), nats_drop xs i (by omega), crc_cons]
    rfl

theorem of_tells (xs : List Int) (hb : Bytes xs) (hl : xs.length < 1000000000000000) (k : Nat) (hk : 10 * xs.length + 1 ≤ k) : sum_Of.f k xs = some ((sumN xs : Nat) : Int) := by
  have := l0_tells xs hb hl xs.length 0 4294967295 k (by omega) (by omega) (by decide) (by omega)
  rw [List.drop_zero] at this
  exact this

theorem sumN_lt {l : List Int} (h : Bytes l) : sumN l < 4294967296 := by
  unfold sumN
  exact Nat.xor_lt_two_pow (n := 32) (by decide) (crc_lt (by decide) _ (nats_lt h))

-- the document's
theorem ref_l1 (r : Nat) (hr : r < 2 ^ 32) : ∀ (j : Nat) (k : Nat), j ≤ 32 → j + 1 ≤ k → drystoneref01_Of.l1 k (r : Int) (revN (32 - j) r : Nat) ((32 - j : Nat) : Int) = some ((revN 32 r ^^^ 4294967295 : Nat) : Int)
  | 0, k, _, hk => by
    obtain ⟨k, rfl⟩ : ∃ m, k = m + 1 := ⟨k - 1, by omega⟩
    simp only [drystoneref01_Of.l1]
    rw [if_neg (by omega)]
    have := revN_lt 32 r
    show some (Go.bits .xor .u32 ((revN 32 r : Nat) : Int) ((4294967295 : Nat) : Int)) = _
    rw [u32_xor_nat _ _ (by omega) (by omega)]
  | j + 1, k, hj, hk => by
    obtain ⟨k, rfl⟩ : ∃ m, k = m + 1 := ⟨k - 1, by omega⟩
    obtain ⟨i, hi⟩ : ∃ i, 32 - (j + 1) = i := ⟨_, rfl⟩
    have hi2 : 32 - j = i + 1 := by omega
    have ih := ref_l1 r hr j k (by omega) (by omega)
    rw [hi2] at ih
    rw [hi]
    simp only [drystoneref01_Of.l1]
    rw [if_pos (by omega), if_pos (by omega), wrapS (by omega) (by omega), show (i : Int) + 1 = ((i + 1 : Nat) : Int) by omega, ← ih]
    congr 1
    have hs : shr .u32 (r : Int) (i : Int) = ((r / 2 ^ i : Nat) : Int) := by
      unfold shr
      rw [show min (i : Int).toNat IntKind.u32.bits = i by show min i 32 = i; omega]
      simp
    have hv := revN_lt i r
    have hp : (2 : Nat) ^ (i + 1) ≤ 2 ^ 32 := Nat.pow_le_pow_right (by decide) (by omega)
    rw [Nat.pow_succ] at hp
    rw [hs, show Int.tmod ((r / 2 ^ i : Nat) : Int) 2 = ((r / 2 ^ i % 2 : Nat) : Int) by rw [Int.tmod_eq_emod_of_nonneg (Int.natCast_nonneg _)]; rfl,
      show ((revN i r : Nat) : Int) * 2 % 4294967296 = ((revN i r * 2 : Nat) : Int) by omega, u32_or_nat _ _ (by omega) (by omega), revN_succ]
    congr 1
    have hm := Nat.mod_lt (r / 2 ^ i) (show 0 < 2 by decide)
    generalize r / 2 ^ i % 2 = b at hm ⊢
    generalize revN i r = y
    apply Nat.eq_of_testBit_eq
    intro q
    rw [Nat.testBit_or]
    rcases (show b = 0 ∨ b = 1 by omega) with rfl | rfl
    · simp
    · cases q with
      | zero => simp [Nat.testBit_zero]
      | succ q =>
        rw [Nat.testBit_succ, Nat.testBit_succ, Nat.testBit_succ, Nat.mul_div_cancel _ (by decide), show (y * 2 + 1) / 2 = y by omega]
        simp

theorem ref_bit (xs : List Int) (hb : Bytes xs) (hl : xs.length < 1000000000000000) (q j : Nat) (hq : q < xs.length) (hj : j < 8) (r : Nat) (k : Nat) :
    drystoneref01_Of.l0 (k + 1) xs (r : Int) ((8 * q + j : Nat) : Int) = drystoneref01_Of.l0 k xs ((rs r ((rd xs (q : Int)).toNat / 2 ^ j % 2) : Nat) : Int) ((8 * q + j + 1 : Nat) : Int) := by
  have hx := rd_byte hb q hq
  have e1 : Int.tdiv ((8 * q + j : Nat) : Int) 8 = (q : Int) := by rw [Int.tdiv_eq_ediv_of_nonneg (by omega)]; omega
  have e2 : Int.tmod ((8 * q + j : Nat) : Int) 8 = (j : Int) := by rw [Int.tmod_eq_emod_of_nonneg (by omega)]; omega
  obtain ⟨x, hxn⟩ : ∃ x : Nat, rd xs (q : Int) = (x : Int) := ⟨(rd xs (q : Int)).toNat, by omega⟩
  have hs : shr .u8 (x : Int) (j : Int) = ((x / 2 ^ j : Nat) : Int) := by
    unfold shr
    rw [show min (j : Int).toNat IntKind.u8.bits = j by show min j 8 = j; omega]
    simp
  simp only [drystoneref01_Of.l0]
  rw [wrapS (x := (xs.length : Int) * 8) (by omega) (by omega), if_pos (by omega), e1, e2, wrapS (x := (q : Int)) (by omega) (by omega), if_pos (by omega), if_pos (by omega), if_pos (by omega), hxn, hs, Int.toNat_natCast,
    wrapS (by omega) (by omega)]
  have hd : x / 2 ^ j ≤ x := Nat.div_le_self _ _
  have hm : ((x / 2 ^ j : Nat) : Int) % 4294967296 % 2 = ((x / 2 ^ j % 2 : Nat) : Int) := by omega
  rw [hm, show (r : Int) / 2147483648 = ((r / 2147483648 : Nat) : Int) from rfl, show (r : Int) * 2 % 4294967296 = ((r * 2 % 4294967296 : Nat) : Int) by omega, show ((8 * q + j : Nat) : Int) + 1 = ((8 * q + j + 1 : Nat) : Int) by omega]
  unfold rs
  by_cases e : r / 2147483648 = x / 2 ^ j % 2
  · rw [if_pos (by rw [e]), if_pos e]
  · rw [if_neg (by omega), if_neg e]
    show drystoneref01_Of.l0 k xs (Go.bits .xor .u32 ((r * 2 % 4294967296 : Nat) : Int) ((79764919 : Nat) : Int)) _ = _
    rw [u32_xor_nat _ _ (by omega) (by omega)]

theorem ref_byte (xs : List Int) (hb : Bytes xs) (hl : xs.length < 1000000000000000) (q : Nat) (hq : q < xs.length) (r : Nat) (k : Nat) : ∀ j, j ≤ 8 →
    drystoneref01_Of.l0 (j + k) xs (r : Int) ((8 * q : Nat) : Int) = drystoneref01_Of.l0 k xs ((refByte r (rd xs (q : Int)).toNat j : Nat) : Int) ((8 * q + j : Nat) : Int)
  | 0, _ => by simp [refByte]
  | j + 1, hj => by
    have ih := ref_byte xs hb hl q hq r (k + 1) j (by omega)
    rw [show j + 1 + k = j + (k + 1) by omega, ih, ref_bit xs hb hl q j hq (by omega) _ k]
    rfl

theorem ref_l0 (xs : List Int) (hb : Bytes xs) (hl : xs.length < 1000000000000000) : ∀ (d q : Nat) (r : Nat) (k : Nat), xs.length - q = d → q ≤ xs.length → r < 2 ^ 32 → 8 * d + 34 ≤ k →
    drystoneref01_Of.l0 k xs (r : Int) ((8 * q : Nat) : Int) = some ((revN 32 (ref r (nats (xs.drop q))) ^^^ 4294967295 : Nat) : Int)
  | 0, q, r, k, hd, hq, hr, hk => by
    obtain ⟨k, rfl⟩ : ∃ m, k = m + 1 := ⟨k - 1, by omega⟩
    simp only [drystoneref01_Of.l0]
    rw [wrapS (x := (xs.length : Int) * 8) (by omega) (by omega), if_neg (by omega), List.drop_eq_nil_of_le (by omega)]
    exact ref_l1 r hr 32 k (by omega) (by omega)
  | d + 1, q, r, k, hd, hq, hr, hk => by
    obtain ⟨k, rfl⟩ : ∃ m, k = 8 + m := ⟨k - 8, by omega⟩
    rw [ref_byte xs hb hl q (by omega) r k 8 (by omega), show 8 * q + 8 = 8 * (q + 1) by omega, ref_l0 xs hb hl d (q + 1) _ k (by omega) (by omega) (refByte_lt hr _ 8) (by omega), nats_drop xs q (by omega), ref_cons]

theorem ref_tells (xs : List Int) (hb : Bytes xs) (hl : xs.length < 1000000000000000) (k : Nat) (hk : 8 * xs.length + 34 ≤ k) : drystoneref01_Of.f k xs = some ((sumN xs : Nat) : Int) := by
  have := ref_l0 xs hb hl xs.length 0 4294967295 k (by omega) (by omega) (by decide) (by omega)
  rw [List.drop_zero, ref_rev (by decide) _ (nats_lt hb), rev_ones, Nat.xor_comm] at this
  exact this

theorem awake_tells (k : Nat) (hk : 91 ≤ k) : drystonelaw01_Awake.f k = some true := by
  unfold drystonelaw01_Awake.f
  rw [of_tells _ (by intro x hx; revert x hx; decide) (by decide) k (by simpa using hk)]
  have : sumN [49, 50, 51, 52, 53, 54, 55, 56, 57] = 3421780262 := by decide +kernel
  rw [this]
  rfl

attribute [irreducible] sumN

end Go.Proofs.Ytkgeomjbagoomaa.Q
