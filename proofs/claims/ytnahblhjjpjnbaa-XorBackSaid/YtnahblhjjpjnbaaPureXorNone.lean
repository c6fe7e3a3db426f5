/- The plain law: None tells whether all bytes are noughts; it says so of noughts. No further condition. -/
import Derived.Test.YtnahblhjjpjnbaaTells
namespace Go.Proofs.Ytnahblhjjpjnbaa.Pure
open Go.RowKit Go.Proofs.Ytnahblhjjpjnbaa.Q Go.Proofs.YtnahblhjjpjnbaaW.PrintWords Go.Proofs.YtnahblhjjpjnbaaW.PrintLast Go.Proofs.YtnahblhjjpjnbaaW.PrintMore

def zeros (l : List Int) : Bool := l.all fun x => x == 0
theorem drop_rd {l : List Int} {i : Nat} (h : i < l.length) : l.drop i = rd l (i : Int) :: l.drop (i + 1) := by
  rw [List.drop_eq_getElem_cons h]
  congr 1
  unfold rd
  simp [List.getD_eq_getElem?_getD, List.getElem?_eq_getElem h]

theorem none_l0 (l : List Int) (hll : l.length ≤ 281474976710656) : ∀ (d i k : Nat), l.length - i = d → i ≤ l.length → d + 1 ≤ k → xor_None.l0 k l (l.length : Int) (i : Int) = some (zeros (l.drop i))
  | 0, i, k, hd, hi, hk => by
    obtain ⟨k, rfl⟩ : ∃ m, k = m + 1 := ⟨k - 1, by omega⟩
    simp only [xor_None.l0]
    rw [if_neg (by omega), List.drop_eq_nil_of_le (by omega)]
    rfl
  | d + 1, i, k, hd, hi, hk => by
    obtain ⟨k, rfl⟩ : ∃ m, k = m + 1 := ⟨k - 1, by omega⟩
    simp only [xor_None.l0]
    rw [if_pos (by omega), if_pos (by omega), if_pos (by omega), drop_rd (show i < l.length by omega)]
    by_cases c : rd l (i : Int) = 0
    · rw [if_pos c, wrapS (by omega) (by omega), show (i : Int) + 1 = ((i + 1 : Nat) : Int) by omega, none_l0 l hll d (i + 1) k (by omega) (by omega) (by omega)]
      simp [zeros, c]
    · rw [if_neg c]
      simp [zeros, c]
theorem none_tells (l : List Int) (hll : l.length ≤ 281474976710656) (k : Nat) (hk : l.length + 1 ≤ k) : xor_None.f k l = some (zeros l) := by
  have := none_l0 l hll l.length 0 k (by omega) (by omega) hk
  rw [List.drop_zero] at this
  exact this

theorem xn_l0 (l : List Int) (n : Nat) (hn : n < 256) (hll : l.length ≤ 140737488351232) : ∀ (d i k : Nat) (b : Bool), l.length - i = d → i ≤ l.length → (b && zeros (l.drop i)) = zeros l → d + l.length + 300 ≤ k →
    drystonelaw06_XorNone.l0 k l (n : Int) b l (l.length : Int) (i : Int) = some true
  | 0, i, k, b, hd, hi, hb, hk => by
    obtain ⟨k, rfl⟩ : ∃ m, k = m + 1 := ⟨k - 1, by omega⟩
    rw [List.drop_eq_nil_of_le (by omega)] at hb
    have hb2 : b = zeros l := by rw [← hb]; simp [zeros]
    simp only [drystonelaw06_XorNone.l0]
    rw [if_neg (by omega), none_tells l (by omega) k (by omega), Option.bind_some, hb2, if_pos (by simp), if_pos (by omega), Int.toNat_natCast, if_pos (by omega), none_tells _ (by rw [List.length_replicate]; omega) k (by rw [List.length_replicate]; omega)]
    simp [zeros]
  | d + 1, i, k, b, hd, hi, hb, hk => by
    obtain ⟨k, rfl⟩ : ∃ m, k = m + 1 := ⟨k - 1, by omega⟩
    rw [drop_rd (show i < l.length by omega)] at hb
    simp only [drystonelaw06_XorNone.l0]
    rw [if_pos (by omega), if_pos (by omega), if_pos (by omega), wrapS (by omega) (by omega), show (i : Int) + 1 = ((i + 1 : Nat) : Int) by omega]
    cases b with
    | true =>
      rw [if_pos rfl]
      exact xn_l0 l n hn hll d (i + 1) k _ (by omega) (by omega) (by rw [← hb]; simp [zeros]) (by omega)
    | false =>
      rw [if_neg (by decide)]
      exact xn_l0 l n hn hll d (i + 1) k _ (by omega) (by omega) (by rw [← hb]; rfl) (by omega)

theorem XorNone (l : List Int) (n : Int) (hn : 0 ≤ n ∧ n < 256) (hll : l.length ≤ 140737488351232) : ∃ k, drystonelaw06_XorNone.f k l n = some true := by
  obtain ⟨n, rfl⟩ := Int.eq_ofNat_of_zero_le hn.1
  refine ⟨l.length + l.length + 400, ?_⟩
  generalize hK : l.length + l.length + 400 = K
  unfold drystonelaw06_XorNone.f
  rw [awake_tells K (by omega), Option.bind_some, if_pos rfl]
  exact xn_l0 l n (by omega) hll l.length 0 K true (by omega) (by omega) (by rw [List.drop_zero]; rfl) (by omega)

theorem XorNone_walk (A : Option Addr) (c : Nat) (l : List Int) (a : Int) (w : World) (hr : Kd.C (Kd.int .u8) w A l.length l) (hc : l.length ≤ c) (hm : l.length * 1 ≤ 140737488351232) (_ : ∀ x ∈ l, (Lit.int .u8 x).wf = true) (ha : (Lit.int .u8 a).wf = true) :
    Calls Try.prog 4 #[.slice A l.length c, .int .u8 a] w fun e w' => e = .returned (.bool true) ∧ Below w.heap.size w w' := by
  have ha2 : 0 ≤ a ∧ a < 256 := by
    simp [Lit.wf, IntKind.min, IntKind.max, IntKind.signed, IntKind.bits] at ha
    omega
  obtain ⟨k, h⟩ := XorNone l a ha2 (by omega)
  exact drystonelaw06_XorNone.calls k A c l a true w hr hc h

end Go.Proofs.Ytnahblhjjpjnbaa.Pure
