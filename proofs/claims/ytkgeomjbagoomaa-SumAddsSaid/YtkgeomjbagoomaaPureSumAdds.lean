/- The plain law: of three texts of one length, turned by one another, the sum is that of their sums, turned by one another. No further condition. -/
import Derived.Test.YtkgeomjbagoomaaSealed
namespace Go.Proofs.Ytkgeomjbagoomaa.Pure
open Go.RowKit Go.Proofs.Ytkgeomjbagoomaa.Q Go.Proofs.YtkgeomjbagoomaaW.PrintWords Go.Proofs.YtkgeomjbagoomaaW.PrintLast Go.Proofs.YtkgeomjbagoomaaW.PrintMore CrcMath

def xor3 (a b c : List Int) : List Nat := List.zipWith (· ^^^ ·) (List.zipWith (· ^^^ ·) (nats a) (nats b)) (nats c)
def ints (l : List Nat) : List Int := l.map Int.ofNat
theorem nats_ints (l : List Nat) : nats (ints l) = l := by
  unfold nats ints
  rw [List.map_map]
  conv => rhs; rw [← List.map_id l]
  apply List.map_congr_left
  intro x _
  simp

theorem sumN_xor3 {a b c : List Int} (hab : b.length = a.length) (hac : c.length = a.length) : sumN (ints (xor3 a b c)) = sumN a ^^^ sumN b ^^^ sumN c := by
  unfold sumN
  rw [nats_ints]
  have h := crc_xor3 4294967295 4294967295 4294967295 (nats a) (nats b) (nats c) (by simpa [nats] using hab) (by simpa [nats] using hac)
  rw [show (4294967295 : Nat) ^^^ 4294967295 ^^^ 4294967295 = 4294967295 from rfl] at h
  unfold xor3
  rw [h]
  generalize crc 4294967295 (nats a) = x
  generalize crc 4294967295 (nats b) = y
  generalize crc 4294967295 (nats c) = z
  rw [show 4294967295 ^^^ x ^^^ (4294967295 ^^^ y) ^^^ (4294967295 ^^^ z) = (4294967295 ^^^ 4294967295 ^^^ 4294967295) ^^^ (x ^^^ y ^^^ z) by ac_rfl, show (4294967295 : Nat) ^^^ 4294967295 ^^^ 4294967295 = 4294967295 from rfl]

theorem xor3_length {a b c : List Int} (hab : b.length = a.length) (hac : c.length = a.length) : (ints (xor3 a b c)).length = a.length := by simp [ints, xor3, nats, hab, hac]

theorem xor3_get {a b c : List Int} (i : Nat) (hi : i < a.length) (hj : i < b.length) (hk : i < c.length) (h : i < (ints (xor3 a b c)).length) : (ints (xor3 a b c))[i] = ((a[i].toNat ^^^ b[i].toNat ^^^ c[i].toNat : Nat) : Int) := by
  simp [ints, xor3, nats]

theorem rd_get (l : List Int) (i : Nat) (h : i < l.length) : rd l (i : Int) = l[i] := by unfold rd; simp [List.getD_eq_getElem?_getD, List.getElem?_eq_getElem h]

theorem xor3_bytes {a b c : List Int} (ha : Bytes a) (hb : Bytes b) (hc : Bytes c) (hab : b.length = a.length) (hac : c.length = a.length) : Bytes (ints (xor3 a b c)) := by
  intro x hx
  obtain ⟨i, hi, rfl⟩ := List.getElem_of_mem hx
  have hl := xor3_length hab hac
  have h1 := ha _ (List.getElem_mem (show i < a.length by omega))
  have h2 := hb _ (List.getElem_mem (show i < b.length by omega))
  have h3 := hc _ (List.getElem_mem (show i < c.length by omega))
  rw [xor3_get i (by omega) (by omega) (by omega) hi]
  have := Nat.xor_lt_two_pow (n := 8) (Nat.xor_lt_two_pow (n := 8) (x := (a[i]'(by omega)).toNat) (y := (b[i]'(by omega)).toNat) (by omega) (by omega)) (show (c[i]'(by omega)).toNat < 2 ^ 8 by omega)
  omega

theorem set_next (t : List Int) (n i : Nat) (ht : t.length = n) (hi : i < n) : (t.take i ++ List.replicate (n - i) 0).set i (t[i]'(by omega)) = t.take (i + 1) ++ List.replicate (n - (i + 1)) 0 := by
  have hl : (t.take i).length = i := by rw [List.length_take]; omega
  rw [List.set_append_right _ _ (by omega), hl, Nat.sub_self, show n - i = (n - (i + 1)) + 1 by omega, List.replicate_succ, List.set_cons_zero, List.take_succ_eq_append_getElem (by omega), List.append_assoc]
  rfl

theorem adds_loop (a b c : List Int) (n : Nat) (ha : Bytes a) (hb : Bytes b) (hc : Bytes c) (na : n ≤ a.length) (nb : n ≤ b.length) (nc : n ≤ c.length) (hn : n ≤ 300) : ∀ (d i k : Nat), n - i = d → i ≤ n → d + 10 * n + 2 ≤ k →
    drystonelaw01_SumAdds.l0 k a b c (n : Int) ((ints (xor3 (a.take n) (b.take n) (c.take n))).take i ++ List.replicate (n - i) 0) (n : Int) (i : Int) = some true
  | 0, i, k, hd, hi, hk => by
    obtain ⟨k, rfl⟩ : ∃ m, k = m + 1 := ⟨k - 1, by omega⟩
    have la : (a.take n).length = n := by rw [List.length_take]; omega
    have lb : (b.take n).length = n := by rw [List.length_take]; omega
    have lc : (c.take n).length = n := by rw [List.length_take]; omega
    have hl := xor3_length (a := a.take n) (b := b.take n) (c := c.take n) (by omega) (by omega)
    have hbt := xor3_bytes (ha.take n) (hb.take n) (hc.take n) (by omega) (by omega)
    simp only [drystonelaw01_SumAdds.l0]
    rw [if_neg (by omega), show n - i = 0 by omega, List.replicate_zero, List.append_nil, List.take_of_length_le (by omega), of_tells _ hbt (by omega) _ (by omega)]
    simp only [Option.bind_some, Int.toNat_natCast]
    rw [if_pos (by omega), if_pos (by omega), of_tells _ (ha.take n) (by omega) _ (by omega)]
    simp only [Option.bind_some]
    rw [if_pos (by omega), of_tells _ (hb.take n) (by omega) _ (by omega)]
    simp only [Option.bind_some]
    rw [if_pos (by omega), of_tells _ (hc.take n) (by omega) _ (by omega)]
    simp only [Option.bind_some]
    have s1 := sumN_lt (ha.take n)
    have s2 := sumN_lt (hb.take n)
    have s3 := sumN_lt (hc.take n)
    have s4 : sumN (a.take n) ^^^ sumN (b.take n) < 2 ^ 32 := Nat.xor_lt_two_pow (by omega) (by omega)
    rw [u32_xor_nat _ _ (by omega) (by omega), u32_xor_nat _ _ (by omega) (by omega), sumN_xor3 (by omega) (by omega)]
    simp
  | d + 1, i, k, hd, hi, hk => by
    obtain ⟨k, rfl⟩ : ∃ m, k = m + 1 := ⟨k - 1, by omega⟩
    have la : (a.take n).length = n := by rw [List.length_take]; omega
    have lb : (b.take n).length = n := by rw [List.length_take]; omega
    have lc : (c.take n).length = n := by rw [List.length_take]; omega
    have hl := xor3_length (a := a.take n) (b := b.take n) (c := c.take n) (by omega) (by omega)
    have hx : ((ints (xor3 (a.take n) (b.take n) (c.take n))).take i ++ List.replicate (n - i) 0).length = n := by rw [List.length_append, List.length_take, List.length_replicate]; omega
    simp only [drystonelaw01_SumAdds.l0]
    rw [hx, if_pos (by omega), if_pos (by omega), if_pos (by omega), if_pos (by omega), if_pos (by omega), if_pos (by omega), Int.toNat_natCast, wrapS (by omega) (by omega), show (i : Int) + 1 = ((i + 1 : Nat) : Int) by omega]
    have h1 := rd_byte ha i (by omega)
    have h2 := rd_byte hb i (by omega)
    have h3 := rd_byte hc i (by omega)
    have e : Go.bits .xor .u8 (Go.bits .xor .u8 (rd a (i : Int)) (rd b (i : Int))) (rd c (i : Int)) = (ints (xor3 (a.take n) (b.take n) (c.take n)))[i]'(by omega) := by
      rw [u8_xor _ _ h1.1 h1.2 h2.1 h2.2]
      have h4 := Nat.xor_lt_two_pow (n := 8) (x := (rd a (i : Int)).toNat) (y := (rd b (i : Int)).toNat) (by omega) (by omega)
      rw [u8_xor _ _ (by omega) (by omega) h3.1 h3.2, xor3_get i (by omega) (by omega) (by omega) (by omega), rd_get a i (by omega), rd_get b i (by omega), rd_get c i (by omega)]
      simp
    rw [e, set_next _ n i (by omega) (by omega)]
    exact adds_loop a b c n ha hb hc na nb nc hn d (i + 1) k (by omega) (by omega) (by omega)

theorem SumAdds : drystonelaw01_SumAdds.Pure := by
  intro a b c _ la wa _ lb wb _ lc wc
  refine ⟨20 * 300 + 200, ?_⟩
  unfold drystonelaw01_SumAdds.f
  rw [awake_tells _ (by omega)]
  simp only [Option.bind_some]
  rw [if_pos trivial]
  obtain ⟨n, hn, h1, h2, h3, h4⟩ : ∃ n : Nat, mn (mn (mn (a.length : Int) (b.length : Int)) (c.length : Int)) 300 = (n : Int) ∧ n ≤ a.length ∧ n ≤ b.length ∧ n ≤ c.length ∧ n ≤ 300 := by
    refine ⟨(mn (mn (mn (a.length : Int) (b.length : Int)) (c.length : Int)) 300).toNat, ?_⟩
    unfold mn
    repeat' split
    all_goals omega
  rw [hn, if_pos (by omega), Int.toNat_natCast, if_pos (by omega), List.length_replicate]
  have := adds_loop a b c n (Bytes.wf wa) (Bytes.wf wb) (Bytes.wf wc) h1 h2 h3 h4 n 0 (20 * 300 + 200) (by omega) (by omega) (by omega)
  simpa using this

end Go.Proofs.Ytkgeomjbagoomaa.Pure
