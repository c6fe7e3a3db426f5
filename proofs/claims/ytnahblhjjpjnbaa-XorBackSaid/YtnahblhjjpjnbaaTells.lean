/- What xor.Of, odd and light come to, as plain functions on lists of bytes. -/
import Derived.Test.YtnahblhjjpjnbaaQx2
import Derived.Laws.BitsAllLaws
namespace Go.Proofs.Ytnahblhjjpjnbaa.Q
open Go.RowKit Go.Proofs.YtnahblhjjpjnbaaW.PrintWords Go.Proofs.YtnahblhjjpjnbaaW.PrintLast Go.Proofs.YtnahblhjjpjnbaaW.PrintMore

def Bytes (l : List Int) : Prop := ∀ x ∈ l, 0 ≤ x ∧ x < 256
def BRows (l : List (List Int)) : Prop := ∀ b ∈ l, Bytes b ∧ b.length ≤ 140737488351232
theorem wrapS {x : Int} (h : 0 ≤ x) (g : x < 4611686018427387904) : wrap64 x = x := by unfold wrap64; omega

/-- A row of n numbers, by a function. -/
def L (n : Nat) (f : Nat → Nat) : List Int := (List.range n).map fun i => (f i : Int)
theorem L_length (n : Nat) (f : Nat → Nat) : (L n f).length = n := by simp [L]
theorem L_rd {n : Nat} {f : Nat → Nat} {i : Nat} (h : i < n) : rd (L n f) (i : Int) = (f i : Int) := by
  unfold rd L
  simp [List.getD_eq_getElem?_getD, List.getElem?_map, List.getElem?_range h]
theorem L_set {n : Nat} {f : Nat → Nat} {i : Nat} (v : Nat) : (L n f).set i (v : Int) = L n (fun j => if j = i then v else f j) := by
  apply List.ext_getElem
  · simp [L]
  · intro j h1 h2
    simp only [L, List.getElem_set, List.getElem_map, List.getElem_range]
    by_cases e : i = j
    · simp [e]
    · rw [if_neg e, if_neg (fun h => e h.symm)]
theorem L_congr {n : Nat} {f g : Nat → Nat} (h : ∀ i, i < n → f i = g i) : L n f = L n g := by
  unfold L
  apply List.map_congr_left
  intro i hi
  rw [h i (List.mem_range.1 hi)]
theorem L_zero (n : Nat) : List.replicate n (0 : Int) = L n (fun _ => 0) := by
  apply List.ext_getElem
  · simp [L]
  · intro i h1 h2
    simp [L]

def rdn (b : List Int) (i : Nat) : Nat := (rd b (i : Int)).toNat
theorem rd_lt {b : List Int} (hb : Bytes b) (i : Nat) : 0 ≤ rd b (i : Int) ∧ rd b (i : Int) < 256 := by
  unfold rd
  rw [Int.toNat_natCast, List.getD_eq_getElem?_getD]
  rcases Nat.lt_or_ge i b.length with h | h
  · rw [List.getElem?_eq_getElem h]
    exact hb _ (List.getElem_mem h)
  · rw [List.getElem?_eq_none h]
    exact ⟨by decide, by decide⟩
theorem rdn_lt {b : List Int} (hb : Bytes b) (i : Nat) : rdn b i < 256 := by have := rd_lt hb i; unfold rdn; omega
theorem rdn_cast {b : List Int} (hb : Bytes b) (i : Nat) : rd b (i : Int) = (rdn b i : Int) := by have := rd_lt hb i; unfold rdn; omega
theorem rdn_out {b : List Int} {i : Nat} (h : b.length ≤ i) : rdn b i = 0 := by
  unfold rdn rd
  rw [Int.toNat_natCast, List.getD_eq_getElem?_getD, List.getElem?_eq_none h]
  rfl

/-- Each place: the bits of all rows there. -/
def xorAt : List (List Int) → Nat → Nat
  | [], _ => 0
  | b :: r, i => rdn b i ^^^ xorAt r i
def mlen : List (List Int) → Nat
  | [] => 0
  | b :: r => max b.length (mlen r)
def cost : List (List Int) → Nat
  | [] => 0
  | b :: r => b.length + 2 + cost r
theorem mlen_le : ∀ {l : List (List Int)}, BRows l → mlen l ≤ 140737488351232
  | [], _ => by simp [mlen]
  | b :: r, h => by
    have h1 := (h b (by simp)).2
    have h2 := mlen_le (l := r) (fun x hx => h x (by simp [hx]))
    simp only [mlen]
    omega
theorem xorAt_lt : ∀ {l : List (List Int)}, BRows l → ∀ i, xorAt l i < 256
  | [], _, _ => by simp [xorAt]
  | b :: r, h, i => by
    have h1 := rdn_lt (h b (by simp)).1 i
    have h2 := xorAt_lt (l := r) (fun x hx => h x (by simp [hx])) i
    exact Nat.xor_lt_two_pow (n := 8) (by omega) (by omega)
theorem xorAt_out : ∀ {l : List (List Int)} {i : Nat}, mlen l ≤ i → xorAt l i = 0
  | [], _, _ => rfl
  | b :: r, i, h => by
    simp only [mlen] at h
    simp only [xorAt]
    rw [rdn_out (by omega), xorAt_out (by omega)]
    rfl

theorem drop_cons {l : List (List Int)} {i : Nat} (h : i < l.length) : l.drop i = rd_L1 l (i : Int) :: l.drop (i + 1) := by
  rw [List.drop_eq_getElem_cons h]
  congr 1
  unfold rd_L1
  simp [List.getD_eq_getElem?_getD, List.getElem?_eq_getElem h]
theorem rd_mem {l : List (List Int)} {i : Nat} (h : i < l.length) : rd_L1 l (i : Int) ∈ l := by
  unfold rd_L1
  rw [Int.toNat_natCast, List.getD_eq_getElem?_getD, List.getElem?_eq_getElem h]
  exact List.getElem_mem h
theorem BRows.drop {l : List (List Int)} (h : BRows l) (i : Nat) : BRows (l.drop i) := fun x hx => h x (List.mem_of_mem_drop hx)

theorem of_l2 (l : List (List Int)) (idx : Int) (n : Nat) (b : List Int) (hb : Bytes b) (hbn : b.length ≤ n) (hn : b.length ≤ 140737488351232) (k : Nat) : ∀ (d j : Nat) (f : Nat → Nat), b.length - j = d → j ≤ b.length → (∀ i, f i < 256) →
    xor_Of.l2 (d + 1 + k) (L n f) l (l.length : Int) idx b (b.length : Int) (j : Int) = xor_Of.l1 k (L n (fun i => if j ≤ i ∧ i < b.length then f i ^^^ rdn b i else f i)) l (l.length : Int) (wrap64 (idx + 1))
  | 0, j, f, hd, hj, hf => by
    rw [show 0 + 1 + k = k + 1 by omega]
    simp only [xor_Of.l2]
    rw [if_neg (by omega)]
    congr 1
    exact L_congr fun i _ => by rw [if_neg (by omega)]
  | d + 1, j, f, hd, hj, hf => by
    rw [show d + 1 + 1 + k = (d + 1 + k) + 1 by omega]
    simp only [xor_Of.l2]
    rw [if_pos (by omega), if_pos (by omega), if_pos (by omega), L_length, if_pos (by omega), Int.toNat_natCast, L_rd (by omega), rdn_cast hb, u8_xor_nat _ _ (hf j) (rdn_lt hb j), L_set, wrapS (by omega) (by omega), show (j : Int) + 1 = ((j + 1 : Nat) : Int) by omega]
    have hf2 : ∀ i, (if i = j then f j ^^^ rdn b j else f i) < 256 := by
      intro i
      split
      · exact Nat.xor_lt_two_pow (n := 8) (by have := hf j; omega) (by have := rdn_lt hb j; omega)
      · exact hf i
    rw [of_l2 l idx n b hb hbn hn k d (j + 1) _ (by omega) (by omega) hf2]
    congr 1
    refine L_congr fun i _ => ?_
    by_cases e : i = j
    · subst e
      rw [if_neg (by omega), if_pos rfl, if_pos (by omega)]
    · rw [if_neg e]
      by_cases c : j + 1 ≤ i ∧ i < b.length
      · rw [if_pos c, if_pos (by omega)]
      · rw [if_neg c, if_neg (by omega)]

theorem of_l1 (l : List (List Int)) (hl : BRows l) (hll : l.length ≤ 140737488351232) (n : Nat) (hn : mlen l ≤ n) : ∀ (d idx k : Nat) (f : Nat → Nat), l.length - idx = d → idx ≤ l.length → (∀ i, f i < 256) → cost (l.drop idx) + 1 ≤ k → mlen (l.drop idx) ≤ n →
    xor_Of.l1 k (L n f) l (l.length : Int) (idx : Int) = some (L n (fun i => f i ^^^ xorAt (l.drop idx) i))
  | 0, idx, k, f, hd, hi, hf, hk, _ => by
    obtain ⟨k, rfl⟩ : ∃ m, k = m + 1 := ⟨k - 1, by omega⟩
    simp only [xor_Of.l1]
    rw [if_neg (by omega), List.drop_eq_nil_of_le (by omega), show L n f = L n (fun i => f i ^^^ xorAt [] i) from L_congr fun i _ => (Nat.xor_zero _).symm]
  | d + 1, idx, k, f, hd, hi, hf, hk, hm => by
    have hb := hl _ (rd_mem (show idx < l.length by omega))
    rw [drop_cons (show idx < l.length by omega)] at hk hm ⊢
    simp only [cost, mlen] at hk hm
    obtain ⟨k, rfl⟩ : ∃ m, k = ((rd_L1 l (idx : Int)).length + 1 + m) + 1 := ⟨k - (rd_L1 l (idx : Int)).length - 2, by omega⟩
    simp only [xor_Of.l1]
    rw [if_pos (by omega), if_pos (by omega), if_pos (by omega)]
    have h2 := of_l2 l (idx : Int) n (rd_L1 l (idx : Int)) hb.1 (by omega) hb.2 k (rd_L1 l (idx : Int)).length 0 f (by omega) (by omega) hf
    rw [show ((0 : Nat) : Int) = 0 from rfl] at h2
    rw [h2, wrapS (by omega) (by omega), show (idx : Int) + 1 = ((idx + 1 : Nat) : Int) by omega]
    have hf2 : ∀ i, (if 0 ≤ i ∧ i < (rd_L1 l (idx : Int)).length then f i ^^^ rdn (rd_L1 l (idx : Int)) i else f i) < 256 := by
      intro i
      split
      · exact Nat.xor_lt_two_pow (n := 8) (by have := hf i; omega) (by have := rdn_lt hb.1 i; omega)
      · exact hf i
    rw [of_l1 l hl hll n hn d (idx + 1) k _ (by omega) (by omega) hf2 (by omega) (by omega)]
    congr 1
    refine L_congr fun i _ => ?_
    simp only [xorAt]
    by_cases c : i < (rd_L1 l (idx : Int)).length
    · rw [if_pos ⟨by omega, c⟩, Nat.xor_assoc]
    · rw [if_neg (by omega), rdn_out (by omega), Nat.zero_xor]

theorem of_l0 (l : List (List Int)) (hl : BRows l) (hll : l.length ≤ 140737488351232) (k : Nat) : ∀ (d i : Nat) (m : Nat), l.length - i = d → i ≤ l.length → m ≤ 140737488351232 →
    xor_Of.l0 (d + 1 + k) l (m : Int) l (l.length : Int) (i : Int) = xor_Of.l1 k (L (max m (mlen (l.drop i))) (fun _ => 0)) l (l.length : Int) 0
  | 0, i, m, hd, hi, hm => by
    rw [show 0 + 1 + k = k + 1 by omega]
    simp only [xor_Of.l0]
    rw [if_neg (by omega), if_pos (by omega), Int.toNat_natCast, if_pos (by omega), List.drop_eq_nil_of_le (by omega), L_zero]
    simp only [mlen, Nat.max_zero]
  | d + 1, i, m, hd, hi, hm => by
    rw [show d + 1 + 1 + k = (d + 1 + k) + 1 by omega]
    have hb := hl _ (rd_mem (show i < l.length by omega))
    simp only [xor_Of.l0]
    rw [if_pos (by omega), if_pos (by omega), if_pos (by omega), wrapS (by omega) (by omega), show (i : Int) + 1 = ((i + 1 : Nat) : Int) by omega]
    have e : mx (m : Int) ((rd_L1 l (i : Int)).length : Int) = ((max m (rd_L1 l (i : Int)).length : Nat) : Int) := by unfold mx; split <;> omega
    rw [e, of_l0 l hl hll k d (i + 1) _ (by omega) (by omega) (by omega), drop_cons (show i < l.length by omega)]
    simp only [mlen]
    rw [Nat.max_assoc]

/-- Of: the bits of all rows, as long as the longest. -/
theorem of_tells (l : List (List Int)) (hl : BRows l) (hll : l.length ≤ 140737488351232) (k : Nat) (hk : l.length + cost l + 2 ≤ k) : xor_Of.f k l = some (L (mlen l) (xorAt l)) := by
  obtain ⟨k, rfl⟩ : ∃ m, k = l.length + 1 + m := ⟨k - l.length - 1, by omega⟩
  unfold xor_Of.f
  have h0 := of_l0 l hl hll k l.length 0 0 (by omega) (by omega) (by omega)
  rw [show ((0 : Nat) : Int) = 0 from rfl, List.drop_zero, Nat.zero_max] at h0
  have h1 := of_l1 l hl hll (mlen l) (Nat.le_refl _) l.length 0 k (fun _ => 0) (by omega) (by omega) (fun _ => by omega) (by rw [List.drop_zero]; omega) (by rw [List.drop_zero]; omega)
  rw [show ((0 : Nat) : Int) = 0 from rfl, List.drop_zero] at h1
  rw [h0, h1]
  congr 1
  exact L_congr fun i _ => Nat.zero_xor _

-- odd
/-- How many rows have a bit at a place. -/
def many (l : List (List Int)) (i j : Nat) : Nat := (l.map fun b => rdn b i / 2 ^ j % 2).sum
theorem many_xor : ∀ (l : List (List Int)) (i j : Nat), many l i j % 2 = xorAt l i / 2 ^ j % 2
  | [], i, j => by simp [many, xorAt]
  | b :: r, i, j => by
    have ih := many_xor r i j
    have e : many (b :: r) i j = rdn b i / 2 ^ j % 2 + many r i j := by simp [many]
    rw [e, Nat.add_mod, ih]
    simp only [xorAt]
    have t : ∀ x : Nat, x / 2 ^ j % 2 = (x.testBit j).toNat := by
      intro x
      rw [Nat.testBit_eq_decide_div_mod_eq]
      rcases Nat.mod_two_eq_zero_or_one (x / 2 ^ j) with h | h <;> simp [h]
    rw [t, t, t, Nat.testBit_xor]
    cases (rdn b i).testBit j <;> cases (xorAt r i).testBit j <;> rfl
theorem many_le : ∀ (l : List (List Int)) (i j : Nat), many l i j ≤ l.length
  | [], _, _ => by simp [many]
  | b :: r, i, j => by
    have ih := many_le r i j
    have e : many (b :: r) i j = rdn b i / 2 ^ j % 2 + many r i j := by simp [many]
    rw [e, List.length_cons]
    omega

theorem odd_l1 (l : List (List Int)) (hl : BRows l) (hll : l.length ≤ 140737488351232) (at_ j : Nat) (hj : j < 8) (x5 : Int) (k : Nat) : ∀ (d i n : Nat), l.length - i = d → i ≤ l.length → n ≤ i →
    drystonelaw06_odd.l1 (d + 1 + k) l (at_ : Int) x5 (j : Int) (n : Int) (j : Int) l (l.length : Int) (i : Int) =
      drystonelaw06_odd.l0 k l (at_ : Int) ((x5 + (shl .u8 ((((n + many (l.drop i) at_ j) % 2 : Nat) : Int) % 256) (j : Int))) % 256) ((j + 1 : Nat) : Int)
  | 0, i, n, hd, hi, hn => by
    rw [show 0 + 1 + k = k + 1 by omega]
    simp only [drystonelaw06_odd.l1]
    rw [if_neg (by omega), if_pos (by omega), List.drop_eq_nil_of_le (by omega), wrapS (by omega) (by omega), Int.tmod_eq_emod_of_nonneg (by omega)]
    rfl
  | d + 1, i, n, hd, hi, hn => by
    rw [show d + 1 + 1 + k = (d + 1 + k) + 1 by omega]
    have hb := hl _ (rd_mem (show i < l.length by omega))
    have hm : many (l.drop i) at_ j = rdn (rd_L1 l (i : Int)) at_ / 2 ^ j % 2 + many (l.drop (i + 1)) at_ j := by rw [drop_cons (show i < l.length by omega)]; simp [many]
    rw [hm]
    simp only [drystonelaw06_odd.l1]
    rw [if_pos (by omega), if_pos (by omega), if_pos (by omega), wrapS (x := (i : Int) + 1) (by omega) (by omega), show (i : Int) + 1 = ((i + 1 : Nat) : Int) by omega]
    by_cases c : at_ < (rd_L1 l (i : Int)).length
    · rw [if_pos (by omega), if_pos (by omega), if_pos (by omega)]
      have hs : Int.tmod (shr .u8 (rd (rd_L1 l (i : Int)) (at_ : Int)) (j : Int)) 2 = ((rdn (rd_L1 l (i : Int)) at_ / 2 ^ j % 2 : Nat) : Int) := by
        rw [rdn_cast hb.1]
        have : shr .u8 ((rdn (rd_L1 l (i : Int)) at_ : Nat) : Int) (j : Int) = ((rdn (rd_L1 l (i : Int)) at_ / 2 ^ j : Nat) : Int) := by
          unfold shr
          rw [show min (j : Int).toNat IntKind.u8.bits = j by show min j 8 = j; omega]
          simp
        rw [this, Int.tmod_eq_emod_of_nonneg (Int.natCast_nonneg _)]
        rfl
      rw [hs]
      rcases Nat.mod_two_eq_zero_or_one (rdn (rd_L1 l (i : Int)) at_ / 2 ^ j) with e | e
      · rw [e, if_neg (by decide), odd_l1 l hl hll at_ j hj x5 k d (i + 1) n (by omega) (by omega) (by omega), Nat.zero_add]
      · rw [e, if_pos (by decide), wrapS (by omega) (by omega), show (n : Int) + 1 = ((n + 1 : Nat) : Int) by omega, odd_l1 l hl hll at_ j hj x5 k d (i + 1) (n + 1) (by omega) (by omega) (by omega), Nat.add_assoc]
    · rw [if_neg (by omega), rdn_out (by omega), Nat.zero_div, Nat.zero_mod, Nat.zero_add]
      exact odd_l1 l hl hll at_ j hj x5 k d (i + 1) n (by omega) (by omega) (by omega)

theorem shl_bit : ∀ j : Fin 8, ∀ v : Fin 2, shl .u8 (((v.val : Nat) : Int) % 256) (j.val : Int) = ((2 ^ j.val * v.val : Nat) : Int) := by decide

theorem odd_l0 (l : List (List Int)) (hl : BRows l) (hll : l.length ≤ 140737488351232) (at_ : Nat) : ∀ (d j k : Nat), 8 - j = d → j ≤ 8 → d * (l.length + 2) + 1 ≤ k →
    drystonelaw06_odd.l0 k l (at_ : Int) ((xorAt l at_ % 2 ^ j : Nat) : Int) (j : Int) = some (xorAt l at_ : Int)
  | 0, j, k, hd, hj, hk => by
    obtain ⟨k, rfl⟩ : ∃ m, k = m + 1 := ⟨k - 1, by omega⟩
    have e : j = 8 := by omega
    subst e
    simp only [drystonelaw06_odd.l0]
    rw [if_neg (by omega)]
    have := xorAt_lt hl at_
    rw [Nat.mod_eq_of_lt (by omega)]
  | d + 1, j, k, hd, hj, hk => by
    rw [Nat.succ_mul] at hk
    obtain ⟨k, rfl⟩ : ∃ m, k = (l.length + 1 + m) + 1 := ⟨k - l.length - 2, by omega⟩
    simp only [drystonelaw06_odd.l0]
    rw [if_pos (by omega)]
    have h1 := odd_l1 l hl hll at_ j (by omega) ((xorAt l at_ % 2 ^ j : Nat) : Int) k l.length 0 0 (by omega) (by omega) (by omega)
    rw [show ((0 : Nat) : Int) = 0 from rfl, List.drop_zero, Nat.zero_add, many_xor] at h1
    rw [h1]
    have hb := Nat.mod_lt (xorAt l at_ / 2 ^ j) (show 0 < 2 by decide)
    have h2 := shl_bit ⟨j, by omega⟩ ⟨xorAt l at_ / 2 ^ j % 2, hb⟩
    have h2' : shl .u8 (((xorAt l at_ / 2 ^ j % 2 : Nat) : Int) % 256) (j : Int) = ((2 ^ j * (xorAt l at_ / 2 ^ j % 2) : Nat) : Int) := h2
    rw [h2']
    have h3 : xorAt l at_ % 2 ^ (j + 1) = xorAt l at_ % 2 ^ j + 2 ^ j * (xorAt l at_ / 2 ^ j % 2) := Nat.mod_pow_succ
    have h4 : xorAt l at_ % 2 ^ (j + 1) ≤ xorAt l at_ := Nat.mod_le _ _
    have h5 := xorAt_lt hl at_
    rw [show (((xorAt l at_ % 2 ^ j : Nat) : Int) + ((2 ^ j * (xorAt l at_ / 2 ^ j % 2) : Nat) : Int)) % 256 = ((xorAt l at_ % 2 ^ (j + 1) : Nat) : Int) by omega]
    exact odd_l0 l hl hll at_ d (j + 1) k (by omega) (by omega) (by omega)

theorem odd_tells (l : List (List Int)) (hl : BRows l) (hll : l.length ≤ 140737488351232) (at_ : Nat) (k : Nat) (hk : 8 * (l.length + 2) + 1 ≤ k) : drystonelaw06_odd.f k l (at_ : Int) = some (xorAt l at_ : Int) := by
  have := odd_l0 l hl hll at_ 8 0 k (by omega) (by omega) hk
  rw [Nat.pow_zero, Nat.mod_one] at this
  exact this

theorem light_l0 (l : List (List Int)) (hll : l.length ≤ 140737488351232) : ∀ (d i k : Nat) (x : Int), l.length - i = d → i ≤ l.length → d + 1 ≤ k → ∃ b, drystonelaw06_light.l0 k x l (l.length : Int) (i : Int) = some b
  | 0, i, k, x, hd, hi, hk => by
    obtain ⟨k, rfl⟩ : ∃ m, k = m + 1 := ⟨k - 1, by omega⟩
    simp only [drystonelaw06_light.l0]
    rw [if_neg (by omega)]
    exact ⟨_, rfl⟩
  | d + 1, i, k, x, hd, hi, hk => by
    obtain ⟨k, rfl⟩ : ∃ m, k = m + 1 := ⟨k - 1, by omega⟩
    simp only [drystonelaw06_light.l0]
    rw [if_pos (by omega), if_pos (by omega), if_pos (by omega), wrapS (x := (i : Int) + 1) (by omega) (by omega), show (i : Int) + 1 = ((i + 1 : Nat) : Int) by omega]
    exact light_l0 l hll d (i + 1) k _ (by omega) (by omega) (by omega)
theorem light_some (l : List (List Int)) (hll : l.length ≤ 140737488351232) (k : Nat) (hk : l.length + 1 ≤ k) : ∃ b, drystonelaw06_light.f k l = some b :=
  light_l0 l hll l.length 0 k 0 (by omega) (by omega) hk

theorem awake_tells (k : Nat) (hk : 40 ≤ k) : drystonelaw06_Awake.f k = some true := by
  have h : ∀ d, drystonelaw06_Awake.f (40 + d) = some true := by
    intro d
    induction d with
    | zero => decide +kernel
    | succ d ih => exact drystonelaw06_Awake.mono _ _ ih
  obtain ⟨d, rfl⟩ : ∃ d, k = 40 + d := ⟨k - 40, by omega⟩
  exact h d

end Go.Proofs.Ytnahblhjjpjnbaa.Q
