/- The plain law: But is Of of the others. No further condition. -/
import Derived.Test.YtnahblhjjpjnbaaPureXorOf
import Derived.Test.YtnahblhjjpjnbaaQx
import Derived.Test.YtnahblhjjpjnbaaOpens
namespace Go.Proofs.Ytnahblhjjpjnbaa.Pure
open Go.RowKit Go.Proofs.Ytnahblhjjpjnbaa.Q Go.Proofs.YtnahblhjjpjnbaaW.PrintWords Go.Proofs.YtnahblhjjpjnbaaW.PrintLast Go.Proofs.YtnahblhjjpjnbaaW.PrintMore

/-- All but one, from a place on. -/
def others (at_ : Int) : Nat → List (List Int) → List (List Int)
  | _, [] => []
  | i, b :: r => if (i : Int) = at_ then others at_ (i + 1) r else b :: others at_ (i + 1) r
theorem others_rows {at_ : Int} : ∀ {i : Nat} {l : List (List Int)}, BRows l → BRows (others at_ i l)
  | _, [], h => h
  | i, b :: r, h => by
    have hr : BRows r := fun x hx => h x (by simp [hx])
    simp only [others]
    split
    · exact others_rows hr
    · intro x hx
      rcases List.mem_cons.1 hx with rfl | hx
      · exact h _ (by simp)
      · exact others_rows hr x hx
theorem others_len {at_ : Int} : ∀ {i : Nat} {l : List (List Int)}, (others at_ i l).length ≤ l.length
  | _, [] => by simp [others]
  | i, b :: r => by
    have := others_len (at_ := at_) (i := i + 1) (l := r)
    simp only [others]
    split <;> simp <;> omega
theorem others_cost {at_ : Int} : ∀ {i : Nat} {l : List (List Int)}, cost (others at_ i l) ≤ cost l
  | _, [] => by simp [others]
  | i, b :: r => by
    have := others_cost (at_ := at_) (i := i + 1) (l := r)
    simp only [others, cost]
    split
    · omega
    · simp only [cost]; omega

theorem but_l0 (l : List (List Int)) (hl : BRows l) (hll : l.length ≤ 5864062014634) (at_ : Int) : ∀ (d i k : Nat) (acc : List (List Int)), l.length - i = d → i ≤ l.length → acc.length ≤ i → acc ++ others at_ i (l.drop i) = others at_ 0 l → d + l.length + cost l + 5 ≤ k →
    xor_But.l0 k at_ acc l (l.length : Int) (i : Int) = some (L (mlen (others at_ 0 l)) (xorAt (others at_ 0 l)))
  | 0, i, k, acc, hd, hi, ha, he, hk => by
    obtain ⟨k, rfl⟩ : ∃ m, k = m + 1 := ⟨k - 1, by omega⟩
    rw [List.drop_eq_nil_of_le (by omega)] at he
    simp only [others, List.append_nil] at he
    have h1 := others_len (at_ := at_) (i := 0) (l := l)
    have h2 := others_cost (at_ := at_) (i := 0) (l := l)
    simp only [xor_But.l0]
    rw [if_neg (by omega), he, of_tells _ (others_rows hl) (by omega) k (by omega)]
    rfl
  | d + 1, i, k, acc, hd, hi, ha, he, hk => by
    obtain ⟨k, rfl⟩ : ∃ m, k = m + 1 := ⟨k - 1, by omega⟩
    rw [drop_cons (show i < l.length by omega)] at he
    simp only [others] at he
    simp only [xor_But.l0]
    rw [if_pos (by omega), if_pos (by omega), if_pos (by omega), wrapS (by omega) (by omega), show (i : Int) + 1 = ((i + 1 : Nat) : Int) by omega]
    by_cases c : (i : Int) = at_
    · rw [if_pos c] at he ⊢
      exact but_l0 l hl hll at_ d (i + 1) k acc (by omega) (by omega) (by omega) he (by omega)
    · rw [if_neg c] at he ⊢
      rw [if_pos (by omega)]
      exact but_l0 l hl hll at_ d (i + 1) k _ (by omega) (by omega) (by simp; omega) (by rw [List.append_assoc]; exact he) (by omega)

theorem xb_l2 (l : List (List Int)) (hl : BRows l) (hll : l.length ≤ 140737488351232) (x : List Int) : ∀ (d i m k : Nat), l.length - i = d → i ≤ l.length → m ≤ 140737488351232 → d + 1 ≤ k → x.length = max m (mlen (l.drop i)) →
    drystonelaw06_XorBut.l2 k x (m : Int) l (l.length : Int) (i : Int) = some true
  | 0, i, m, k, hd, hi, hm, hk, hx => by
    obtain ⟨k, rfl⟩ : ∃ m, k = m + 1 := ⟨k - 1, by omega⟩
    rw [List.drop_eq_nil_of_le (by omega)] at hx
    simp only [mlen, Nat.max_zero] at hx
    simp only [drystonelaw06_XorBut.l2]
    rw [if_neg (by omega), hx]
    simp
  | d + 1, i, m, k, hd, hi, hm, hk, hx => by
    obtain ⟨k, rfl⟩ : ∃ m, k = m + 1 := ⟨k - 1, by omega⟩
    have hb := hl _ (rd_mem (show i < l.length by omega))
    rw [drop_cons (show i < l.length by omega)] at hx
    simp only [mlen] at hx
    simp only [drystonelaw06_XorBut.l2]
    rw [if_pos (by omega), if_pos (by omega), if_pos (by omega), wrapS (by omega) (by omega), show (i : Int) + 1 = ((i + 1 : Nat) : Int) by omega]
    have e : mx (m : Int) ((rd_L1 l (i : Int)).length : Int) = ((max m (rd_L1 l (i : Int)).length : Nat) : Int) := by unfold mx; split <;> omega
    rw [e]
    exact xb_l2 l hl hll x d (i + 1) _ k (by omega) (by omega) (by omega) (by omega) (by omega)

theorem xb_l1 (l : List (List Int)) (hl : BRows l) (hll : l.length ≤ 140737488351232) : ∀ (d i k : Nat), mlen l - i = d → i ≤ mlen l → d + 8 * (l.length + 2) + l.length + 3 ≤ k →
    drystonelaw06_XorBut.l1 k l (L (mlen l) (xorAt l)) (L (mlen l) (xorAt l)) (mlen l : Int) (i : Int) = some true
  | 0, i, k, hd, hi, hk => by
    obtain ⟨k, rfl⟩ : ∃ m, k = m + 1 := ⟨k - 1, by omega⟩
    simp only [drystonelaw06_XorBut.l1]
    rw [if_neg (by omega)]
    exact xb_l2 l hl hll _ l.length 0 0 k (by omega) (by omega) (by omega) (by omega) (by rw [L_length, List.drop_zero, Nat.zero_max])
  | d + 1, i, k, hd, hi, hk => by
    obtain ⟨k, rfl⟩ : ∃ m, k = m + 1 := ⟨k - 1, by omega⟩
    have hm := mlen_le hl
    simp only [drystonelaw06_XorBut.l1]
    rw [if_pos (by omega), if_pos (by omega), L_length, if_pos (by omega), odd_tells l hl hll i k (by omega), Option.bind_some, L_rd (by omega), if_pos rfl, wrapS (by omega) (by omega), show (i : Int) + 1 = ((i + 1 : Nat) : Int) by omega]
    exact xb_l1 l hl hll d (i + 1) k (by omega) (by omega) (by omega)

theorem xb_l0 (l : List (List Int)) (hl : BRows l) (hll : l.length ≤ 5864062014634) (at_ : Int) : ∀ (d i k : Nat) (acc : List (List Int)), l.length - i = d → i ≤ l.length → acc.length ≤ i → acc ++ others at_ i (l.drop i) = others at_ 0 l → d + 10 * l.length + cost l + mlen (others at_ 0 l) + 50 ≤ k →
    drystonelaw06_XorBut.l0 k l at_ acc l (l.length : Int) (i : Int) = some true
  | 0, i, k, acc, hd, hi, ha, he, hk => by
    obtain ⟨k, rfl⟩ : ∃ m, k = m + 1 := ⟨k - 1, by omega⟩
    rw [List.drop_eq_nil_of_le (by omega)] at he
    simp only [others, List.append_nil] at he
    have h1 := others_len (at_ := at_) (i := 0) (l := l)
    simp only [drystonelaw06_XorBut.l0]
    rw [if_neg (by omega), he]
    have hb : xor_But.f k l at_ = some (L (mlen (others at_ 0 l)) (xorAt (others at_ 0 l))) :=
      but_l0 l hl hll at_ l.length 0 k [] (by omega) (by omega) (by simp) (by rw [List.drop_zero]; rfl) (by omega)
    rw [hb, Option.bind_some, L_length]
    exact xb_l1 _ (others_rows hl) (by omega) (mlen (others at_ 0 l)) 0 k (by omega) (by omega) (by omega)
  | d + 1, i, k, acc, hd, hi, ha, he, hk => by
    obtain ⟨k, rfl⟩ : ∃ m, k = m + 1 := ⟨k - 1, by omega⟩
    rw [drop_cons (show i < l.length by omega)] at he
    simp only [others] at he
    simp only [drystonelaw06_XorBut.l0]
    rw [if_pos (by omega), if_pos (by omega), if_pos (by omega), wrapS (by omega) (by omega), show (i : Int) + 1 = ((i + 1 : Nat) : Int) by omega]
    by_cases c : (i : Int) = at_
    · rw [if_pos c] at he ⊢
      exact xb_l0 l hl hll at_ d (i + 1) k acc (by omega) (by omega) (by omega) he (by omega)
    · rw [if_neg c] at he ⊢
      rw [if_pos (by omega)]
      exact xb_l0 l hl hll at_ d (i + 1) k _ (by omega) (by omega) (by simp; omega) (by rw [List.append_assoc]; exact he) (by omega)

theorem XorBut (l : List (List Int)) (hl : BRows l) (hll : l.length ≤ 5864062014634) (at_ : Int) : ∃ k, drystonelaw06_XorBut.f k l at_ = some true := by
  refine ⟨l.length + 10 * l.length + cost l + mlen (others at_ 0 l) + 100, ?_⟩
  generalize hK : l.length + 10 * l.length + cost l + mlen (others at_ 0 l) + 100 = K
  unfold drystonelaw06_XorBut.f
  rw [awake_tells K (by omega), Option.bind_some, if_pos rfl]
  obtain ⟨b, hb⟩ := light_some l (by omega) K (by omega)
  rw [hb, Option.bind_some]
  cases b with
  | false => rw [if_neg (by decide)]
  | true =>
    rw [if_pos rfl]
    exact xb_l0 l hl hll at_ l.length 0 K [] (by omega) (by omega) (by simp) (by rw [List.drop_zero]; rfl) (by omega)

theorem XorBut_walk (A : Option Addr) (c : Nat) (l : List (List Int)) (a : Int) (w : World) (hr : Kd.C (Kd.slice 5 (Kd.int .u8)) w A l.length l) (hc : l.length ≤ c) (hm : l.length * 24 ≤ 140737488351232)
    (hw : ∀ x ∈ l, x.length * 1 ≤ 140737488351232 ∧ ∀ y ∈ x, (Lit.int .u8 y).wf = true) (_ : (Lit.int .i64 a).wf = true) :
    Calls Try.prog 5 #[.slice A l.length c, .int .i64 a] w fun e w' => e = .returned (.bool true) ∧ Below w.heap.size w w' := by
  obtain ⟨k, h⟩ := XorBut l (rows_of hw) (by omega) a
  exact drystonelaw06_XorBut.calls k (fun _ => True) A c l a true w (Go.Proofs.Ytnahblhjjpjnbaa.My.V_of_C (Go.Proofs.Ytnahblhjjpjnbaa.My.heap_slice (Go.Proofs.Ytnahblhjjpjnbaa.My.heap_int .u8) 5) 25 w.heap.size hr hc) h

end Go.Proofs.Ytnahblhjjpjnbaa.Pure
