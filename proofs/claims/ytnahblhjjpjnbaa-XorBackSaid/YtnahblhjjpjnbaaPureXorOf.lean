/- The plain law: Of is, at each place, the byte that odd tells, and as long as the longest. No further condition. -/
import Derived.Test.YtnahblhjjpjnbaaTells
namespace Go.Proofs.Ytnahblhjjpjnbaa.Pure
open Go.RowKit Go.Proofs.Ytnahblhjjpjnbaa.Q Go.Proofs.YtnahblhjjpjnbaaW.PrintWords Go.Proofs.YtnahblhjjpjnbaaW.PrintLast Go.Proofs.YtnahblhjjpjnbaaW.PrintMore

theorem xo_l1 (l : List (List Int)) (hl : BRows l) (hll : l.length ≤ 140737488351232) (n : Nat) (hn : n ≤ 140737488351232) : ∀ (d i k : Nat), n - i = d → i ≤ n → d + 8 * (l.length + 2) + 2 ≤ k →
    drystonelaw06_XorOf.l1 k l (L n (xorAt l)) (n : Int) (i : Int) = some true
  | 0, i, k, hd, hi, hk => by
    obtain ⟨k, rfl⟩ : ∃ m, k = m + 1 := ⟨k - 1, by omega⟩
    simp only [drystonelaw06_XorOf.l1]
    rw [if_neg (by omega)]
  | d + 1, i, k, hd, hi, hk => by
    obtain ⟨k, rfl⟩ : ∃ m, k = m + 1 := ⟨k - 1, by omega⟩
    simp only [drystonelaw06_XorOf.l1]
    rw [if_pos (by omega), if_pos (by omega), L_length, if_pos (by omega), odd_tells l hl hll i k (by omega), Option.bind_some, L_rd (by omega), if_pos rfl, wrapS (by omega) (by omega), show (i : Int) + 1 = ((i + 1 : Nat) : Int) by omega]
    exact xo_l1 l hl hll n hn d (i + 1) k (by omega) (by omega) (by omega)

theorem xo_l0 (l : List (List Int)) (hl : BRows l) (hll : l.length ≤ 140737488351232) : ∀ (d i m k : Nat), l.length - i = d → i ≤ l.length → m ≤ 140737488351232 → max m (mlen (l.drop i)) = mlen l → d + l.length + cost l + mlen l + 8 * (l.length + 2) + 5 ≤ k →
    drystonelaw06_XorOf.l0 k l (m : Int) l (l.length : Int) (i : Int) = some true
  | 0, i, m, k, hd, hi, hm, he, hk => by
    obtain ⟨k, rfl⟩ : ∃ m, k = m + 1 := ⟨k - 1, by omega⟩
    rw [List.drop_eq_nil_of_le (by omega)] at he
    simp only [mlen, Nat.max_zero] at he
    have hle := mlen_le hl
    simp only [drystonelaw06_XorOf.l0]
    rw [if_neg (by omega), of_tells l hl hll k (by omega), Option.bind_some, L_length, if_pos (by omega)]
    exact xo_l1 l hl hll (mlen l) hle (mlen l) 0 k (by omega) (by omega) (by omega)
  | d + 1, i, m, k, hd, hi, hm, he, hk => by
    obtain ⟨k, rfl⟩ : ∃ m, k = m + 1 := ⟨k - 1, by omega⟩
    have hb := hl _ (rd_mem (show i < l.length by omega))
    rw [drop_cons (show i < l.length by omega)] at he
    simp only [mlen] at he
    simp only [drystonelaw06_XorOf.l0]
    rw [if_pos (by omega), if_pos (by omega), if_pos (by omega), wrapS (by omega) (by omega), show (i : Int) + 1 = ((i + 1 : Nat) : Int) by omega]
    have e : mx (m : Int) ((rd_L1 l (i : Int)).length : Int) = ((max m (rd_L1 l (i : Int)).length : Nat) : Int) := by unfold mx; split <;> omega
    rw [e]
    exact xo_l0 l hl hll d (i + 1) _ k (by omega) (by omega) (by omega) (by omega) (by omega)

theorem XorOf (l : List (List Int)) (hl : BRows l) (hll : l.length ≤ 140737488351232) : ∃ k, drystonelaw06_XorOf.f k l = some true := by
  refine ⟨l.length + l.length + cost l + mlen l + 8 * (l.length + 2) + 50, ?_⟩
  generalize hK : l.length + l.length + cost l + mlen l + 8 * (l.length + 2) + 50 = K
  unfold drystonelaw06_XorOf.f
  rw [awake_tells K (by omega), Option.bind_some, if_pos rfl]
  obtain ⟨b, hb⟩ := light_some l hll K (by omega)
  rw [hb, Option.bind_some]
  cases b with
  | false => rw [if_neg (by decide)]
  | true =>
    rw [if_pos rfl]
    exact xo_l0 l hl hll l.length 0 0 K (by omega) (by omega) (by omega) (by rw [List.drop_zero, Nat.zero_max]) (by omega)

theorem rows_of {l : List (List Int)} (h : ∀ x ∈ l, x.length * 1 ≤ 140737488351232 ∧ ∀ y ∈ x, (Lit.int .u8 y).wf = true) : BRows l := by
  intro b hb
  obtain ⟨h1, h2⟩ := h b hb
  refine ⟨fun y hy => ?_, by omega⟩
  have := h2 y hy
  simp [Lit.wf, IntKind.min, IntKind.max, IntKind.signed, IntKind.bits] at this
  omega

theorem XorOf_walk (A : Option Addr) (c : Nat) (l : List (List Int)) (w : World) (hr : Kd.C (Kd.slice 5 (Kd.int .u8)) w A l.length l) (hc : l.length ≤ c) (hm : l.length * 24 ≤ 140737488351232)
    (hw : ∀ x ∈ l, x.length * 1 ≤ 140737488351232 ∧ ∀ y ∈ x, (Lit.int .u8 y).wf = true) :
    Calls Try.prog 3 #[.slice A l.length c] w fun e w' => e = .returned (.bool true) ∧ Below w.heap.size w w' := by
  obtain ⟨k, h⟩ := XorOf l (rows_of hw) (by omega)
  exact drystonelaw06_XorOf.calls k A c l true w hr hc h

end Go.Proofs.Ytnahblhjjpjnbaa.Pure
