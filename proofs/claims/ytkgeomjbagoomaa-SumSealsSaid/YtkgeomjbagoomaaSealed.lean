/- What Seal, Open and slices.Equal come to, as plain functions on lists of bytes. -/
import Derived.Test.YtkgeomjbagoomaaQx
import Derived.Test.YtkgeomjbagoomaaTells
namespace Go.Proofs.Ytkgeomjbagoomaa.Q
open Go.RowKit Go.Proofs.YtkgeomjbagoomaaW.PrintWords Go.Proofs.YtkgeomjbagoomaaW.PrintLast Go.Proofs.YtkgeomjbagoomaaW.PrintMore CrcMath

/-- A number's four bytes, the lowest first. -/
def le4 (n : Int) : List Int := [n % 256, n / 256 % 256, n / 65536 % 256, n / 16777216 % 256]
theorem le4_bytes (n : Int) : Bytes (le4 n) := by
  intro x hx
  simp only [le4, List.mem_cons, List.not_mem_nil, or_false] at hx
  rcases hx with rfl | rfl | rfl | rfl <;> omega

theorem seal_tells (l : List Int) (hb : Bytes l) (hl : l.length < 100000) (k : Nat) (hk : 10 * l.length + 1 ≤ k) : sum_Seal.f k l = some (l ++ le4 (sumN l)) := by
  unfold sum_Seal.f
  rw [of_tells l hb (by omega) k hk]
  simp only [Option.bind_some, List.nil_append, List.length_nil, List.length_cons]
  rw [if_pos (by omega), if_pos (by omega)]
  rfl

theorem or_add {a b i : Nat} (h : a < 2 ^ i) : a ||| 2 ^ i * b = a + 2 ^ i * b := by
  rw [Nat.or_comm, ← Nat.two_pow_add_eq_or_of_lt h, Nat.add_comm]

theorem or_tells (t0 t1 t2 t3 : Int) (h0 : 0 ≤ t0 ∧ t0 < 256) (h1 : 0 ≤ t1 ∧ t1 < 256) (h2 : 0 ≤ t2 ∧ t2 < 256) (h3 : 0 ≤ t3 ∧ t3 < 256) :
    Go.bits .or .u32 (Go.bits .or .u32 (Go.bits .or .u32 (t0 % 4294967296) ((t1 % 4294967296 * 256) % 4294967296)) ((t2 % 4294967296 * 65536) % 4294967296)) ((t3 % 4294967296 * 16777216) % 4294967296) = t0 + 256 * t1 + 65536 * t2 + 16777216 * t3 := by
  obtain ⟨a, rfl⟩ := Int.eq_ofNat_of_zero_le h0.1
  obtain ⟨b, rfl⟩ := Int.eq_ofNat_of_zero_le h1.1
  obtain ⟨c, rfl⟩ := Int.eq_ofNat_of_zero_le h2.1
  obtain ⟨d, rfl⟩ := Int.eq_ofNat_of_zero_le h3.1
  rw [show (a : Int) % 4294967296 = ((a : Nat) : Int) by omega, show (b : Int) % 4294967296 * 256 % 4294967296 = ((2 ^ 8 * b : Nat) : Int) by omega, show (c : Int) % 4294967296 * 65536 % 4294967296 = ((2 ^ 16 * c : Nat) : Int) by omega,
    show (d : Int) % 4294967296 * 16777216 % 4294967296 = ((2 ^ 24 * d : Nat) : Int) by omega]
  rw [u32_or_nat _ _ (by omega) (by omega), or_add (by omega), u32_or_nat _ _ (by omega) (by omega), or_add (by omega), u32_or_nat _ _ (by omega) (by omega), or_add (by omega)]
  omega

theorem rd_app (l t : List Int) (j : Nat) : rd (l ++ t) ((l.length + j : Nat) : Int) = rd t (j : Int) := by
  unfold rd
  rw [Int.toNat_natCast, Int.toNat_natCast, List.getD_eq_getElem?_getD, List.getD_eq_getElem?_getD, List.getElem?_append_right (by omega), Nat.add_sub_cancel_left]

/-- Open, of bytes and four behind them. -/
theorem open_tells (l : List Int) (t0 t1 t2 t3 : Int) (hb : Bytes l) (ht : Bytes [t0, t1, t2, t3]) (hl : l.length < 100000) (k : Nat) (hk : 10 * l.length + 1 ≤ k) :
    sum_Open.f k (l ++ [t0, t1, t2, t3]) = if (sumN l : Int) = t0 + 256 * t1 + 65536 * t2 + 16777216 * t3 then some (l, 0) else some ([], 5) := by
  have h0 := ht t0 (by simp)
  have h1 := ht t1 (by simp)
  have h2 := ht t2 (by simp)
  have h3 := ht t3 (by simp)
  unfold sum_Open.f
  have e : ((l ++ [t0, t1, t2, t3]).length : Int) = (l.length : Int) + 4 := by simp
  rw [e, wrapS (x := (l.length : Int) + 4 - 4) (by omega) (by omega), show (l.length : Int) + 4 - 4 = (l.length : Int) by omega]
  rw [wrapS (x := (l.length : Int) + 1) (by omega) (by omega), wrapS (x := (l.length : Int) + 2) (by omega) (by omega), wrapS (x := (l.length : Int) + 3) (by omega) (by omega)]
  rw [if_neg (by omega), if_pos (by omega), if_pos (by omega), if_pos (by omega), if_pos (by omega), if_pos (by omega), if_pos (by omega), if_pos (by omega), if_pos (by omega), if_pos (by omega)]
  rw [show ((l.length : Int)).toNat = l.length from Int.toNat_natCast _, List.take_left' rfl, of_tells l hb (by omega) k hk]
  have r0 := rd_app l [t0, t1, t2, t3] 0
  have r1 := rd_app l [t0, t1, t2, t3] 1
  have r2 := rd_app l [t0, t1, t2, t3] 2
  have r3 := rd_app l [t0, t1, t2, t3] 3
  simp only [Nat.add_zero, Int.natCast_add] at r0 r1 r2 r3
  rw [r0, show (l.length : Int) + 1 = (l.length : Int) + ((1 : Nat) : Int) from rfl, r1, show (l.length : Int) + 2 = (l.length : Int) + ((2 : Nat) : Int) from rfl, r2, show (l.length : Int) + 3 = (l.length : Int) + ((3 : Nat) : Int) from rfl, r3]
  rw [show rd [t0, t1, t2, t3] ((0 : Nat) : Int) = t0 from rfl, show rd [t0, t1, t2, t3] ((1 : Nat) : Int) = t1 from rfl, show rd [t0, t1, t2, t3] ((2 : Nat) : Int) = t2 from rfl, show rd [t0, t1, t2, t3] ((3 : Nat) : Int) = t3 from rfl]
  rw [or_tells t0 t1 t2 t3 h0 h1 h2 h3]
  simp only [Option.bind_some, List.nil_append, List.length_nil]
  by_cases c : (sumN l : Int) = t0 + 256 * t1 + 65536 * t2 + 16777216 * t3
  · rw [if_pos c, if_pos c, if_pos (by omega)]
  · rw [if_neg c, if_neg c]

theorem open_short (l : List Int) (hl : l.length < 4) (k : Nat) : sum_Open.f k l = some ([], 6) := by
  unfold sum_Open.f
  rw [if_pos (by unfold wrap64; omega)]

/-- Whatever has four bytes at least is such. -/
theorem four (l : List Int) (h : 4 ≤ l.length) : ∃ t0 t1 t2 t3, l = l.take (l.length - 4) ++ [t0, t1, t2, t3] := by
  have e := List.take_append_drop (l.length - 4) l
  have hd : (l.drop (l.length - 4)).length = 4 := by rw [List.length_drop]; omega
  match l.drop (l.length - 4), hd, e with
  | [t0, t1, t2, t3], _, e => exact ⟨t0, t1, t2, t3, e.symm⟩

theorem le4_sum {n : Int} (h0 : 0 ≤ n) (h : n < 4294967296) : n % 256 + 256 * (n / 256 % 256) + 65536 * (n / 65536 % 256) + 16777216 * (n / 16777216 % 256) = n := by omega

theorem open_seal (l : List Int) (n : Int) (hb : Bytes l) (h0 : 0 ≤ n) (h : n < 4294967296) (hl : l.length < 100000) (k : Nat) (hk : 10 * l.length + 1 ≤ k) :
    sum_Open.f k (l ++ le4 n) = if (sumN l : Int) = n then some (l, 0) else some ([], 5) := by
  have := open_tells l _ _ _ _ hb (le4_bytes n) hl k hk
  rw [le4_sum h0 h] at this
  exact this

theorem equal_l0 (a b : List Int) (he : a.length = b.length) (hl : a.length < 1000000000) : ∀ (d i k : Nat), a.length - i = d → i ≤ a.length → d + 1 ≤ k →
    slices_Equal_byte_byte.l0 k a b (a.length : Int) (i : Int) = some (decide (a.drop i = b.drop i))
  | 0, i, k, hd, hi, hk => by
    obtain ⟨k, rfl⟩ : ∃ m, k = m + 1 := ⟨k - 1, by omega⟩
    simp only [slices_Equal_byte_byte.l0]
    rw [if_neg (by omega), List.drop_eq_nil_of_le (by omega), List.drop_eq_nil_of_le (by omega)]
    rfl
  | d + 1, i, k, hd, hi, hk => by
    obtain ⟨k, rfl⟩ : ∃ m, k = m + 1 := ⟨k - 1, by omega⟩
    simp only [slices_Equal_byte_byte.l0]
    rw [if_pos (by omega), if_pos (by omega), if_pos (by omega), if_pos (by omega), wrapS (by omega) (by omega), show (i : Int) + 1 = ((i + 1 : Nat) : Int) by omega, equal_l0 a b he hl d (i + 1) k (by omega) (by omega) (by omega)]
    rw [List.drop_eq_getElem_cons (l := a) (i := i) (by omega), List.drop_eq_getElem_cons (l := b) (i := i) (by omega)]
    have ra : rd a (i : Int) = a[i]'(by omega) := by unfold rd; simp [List.getD_eq_getElem?_getD, List.getElem?_eq_getElem (show i < a.length by omega)]
    have rb : rd b (i : Int) = b[i]'(by omega) := by unfold rd; simp [List.getD_eq_getElem?_getD, List.getElem?_eq_getElem (show i < b.length by omega)]
    rw [ra, rb]
    by_cases c : a[i]'(by omega) = b[i]'(by omega)
    · rw [if_pos c, c]
      congr 1
      rw [decide_eq_decide]
      exact ⟨fun h => by rw [h], fun h => (List.cons.inj h).2⟩
    · rw [if_neg c, decide_eq_false (fun h => c (List.cons.inj h).1)]

theorem equal_tells (a b : List Int) (hl : a.length < 1000000000) (k : Nat) (hk : a.length + 1 ≤ k) : slices_Equal_byte_byte.f k a b = some (decide (a = b)) := by
  unfold slices_Equal_byte_byte.f
  by_cases e : a.length = b.length
  · rw [if_pos (by omega)]
    have := equal_l0 a b e hl a.length 0 k (by omega) (by omega) hk
    rw [List.drop_zero, List.drop_zero] at this
    exact this
  · rw [if_neg (by omega), decide_eq_false (fun h => e (by rw [h]))]

theorem clone_tells (l : List Int) (hl : l.length < 100000000) : slices_Clone_byte_byte.f l = some l := by
  unfold slices_Clone_byte_byte.f
  rw [if_pos (by omega)]

end Go.Proofs.Ytkgeomjbagoomaa.Q
