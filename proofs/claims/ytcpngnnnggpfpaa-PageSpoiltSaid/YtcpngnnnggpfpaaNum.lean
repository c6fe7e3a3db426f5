/- Numbers and their bytes; fields of bytes; sealed bytes. Plain lemmas; no further condition. -/
import Derived.Test.YtcpngnnnggpfpaaSu3
namespace Go.Proofs.Ytcpngnnnggpfpaa
open Go.RowKit
theorem num_le (k n : Nat) : num (le k n) = ((n % 256 ^ k : Nat) : Int) := by
  induction k with
  | zero => simp [le, num, Nat.mod_one]
  | succ k ih =>
    rw [le_snoc, num_snoc, ih, le_len, Nat.mod_pow_succ, Int.natCast_add, Int.natCast_mul, Int.natCast_pow, byteAt, Int.mul_comm]
    rfl
theorem num_inj {l m : List Int} (hl : Oct l) (hm : Oct m) (h : l.length = m.length) (e : num l = num m) : l = m := by
  induction l generalizing m with
  | nil =>
    rcases m with _ | ⟨y, m⟩
    · rfl
    · simp at h
  | cons x l ih =>
    rcases m with _ | ⟨y, m⟩
    · simp at h
    · have h1 := hl x (by simp)
      have h2 := hm y (by simp)
      simp only [num] at e
      obtain rfl : x = y := by omega
      rw [ih (m := m) (fun z hz => hl z (by simp [hz])) (fun z hz => hm z (by simp [hz])) (by simpa using h) (by omega)]
theorem le_eq (k a c : Nat) : le k a = le k c ↔ a % 256 ^ k = c % 256 ^ k := by
  constructor
  · intro h
    have := congrArg num h
    rw [num_le, num_le] at this
    exact Int.ofNat_inj.1 this
  · intro h
    exact num_inj (le_oct _ _) (le_oct _ _) (by rw [le_len, le_len]) (by rw [num_le, num_le, h])
/-- The number in so many bytes, from one on. -/
def nf (xs : List Int) (i n : Nat) : Nat := (num (((xs.drop i).take n).take 8)).toNat
theorem nf_cast {xs : List Int} (h : Oct xs) (i n : Nat) : num (((xs.drop i).take n).take 8) = (nf xs i n : Int) := by
  have := (num_in ((h.drop i).take n |>.take 8)).1
  unfold nf
  omega
theorem nf_cast' {xs : List Int} (h : Oct xs) (i : Nat) {n : Nat} (hn : n ≤ 8) : num ((xs.drop i).take n) = (nf xs i n : Int) := by
  rw [← nf_cast h, List.take_take, Nat.min_eq_right hn]
theorem nf_lt {xs : List Int} (h : Oct xs) (i : Nat) {n : Nat} (hn : n ≤ 8) : nf xs i n < 256 ^ n := by
  have h1 := num_in ((h.drop i).take n)
  rw [nf_cast' h i hn] at h1
  have h3 : ((xs.drop i).take n).length ≤ n := List.length_take_le _ _
  have h2 : (256 : Nat) ^ ((xs.drop i).take n).length ≤ 256 ^ n := Nat.pow_le_pow_right (by decide) h3
  have h4 : ((nf xs i n : Nat) : Int) < ((256 ^ ((xs.drop i).take n).length : Nat) : Int) := by rw [Int.natCast_pow]; exact h1.2
  have := Int.ofNat_lt.1 h4
  omega
theorem nf_at {xs b : List Int} {i n v : Nat} (e : xs.drop i = le n v ++ b) (hn : n ≤ 8) (hv : v < 256 ^ n) : nf xs i n = v := by
  unfold nf
  rw [e, List.take_append_of_le_length (by rw [le_len]; exact Nat.le_refl _), List.take_of_length_le (l := le n v) (by rw [le_len]; exact Nat.le_refl _), List.take_of_length_le (by rw [le_len]; exact hn), num_le, Nat.mod_eq_of_lt hv]
  rfl
theorem nf_take (xs : List Int) {i n k : Nat} (h : i + n ≤ k) : nf (xs.take k) i n = nf xs i n := by
  unfold nf
  rw [List.drop_take, List.take_take (l := xs.drop i), Nat.min_eq_left (by omega)]
theorem seal_iff {ys ts : List Int} (ho : Oct ys) (hto : Oct ts) (ht : ts.length = 4) : num ts = cs ys ↔ ys ++ ts = sealL ys := by
  have hl := cs_lt ho
  unfold sealL
  constructor
  · intro e
    congr 1
    refine num_inj hto (le_oct _ _) (by rw [ht, le_len]) ?_
    rw [e, num_le, Nat.mod_eq_of_lt (by omega)]
  · intro e
    rw [List.append_cancel_left e, num_le, Nat.mod_eq_of_lt (by omega)]
theorem take_seal {ys zs : List Int} {n : Nat} (h : n = ys.length + 4) : (sealL ys ++ zs).take n = sealL ys := by
  subst h
  rw [List.take_append_of_le_length (by rw [sealL_len]; exact Nat.le_refl _), List.take_of_length_le (by rw [sealL_len]; exact Nat.le_refl _)]
theorem take_seal0 {ys zs : List Int} {n : Nat} (h : n = ys.length) : (sealL ys ++ zs).take n = ys := by
  subst h
  unfold sealL
  rw [List.append_assoc, List.take_append_of_le_length (Nat.le_refl _), List.take_length]
theorem drop_seal {ys zs : List Int} {n : Nat} (h : n = ys.length + 4) : (sealL ys ++ zs).drop n = zs := by
  subst h
  rw [← sealL_len, List.drop_append_of_le_length (Nat.le_refl _), List.drop_length, List.nil_append]
end Go.Proofs.Ytcpngnnnggpfpaa
