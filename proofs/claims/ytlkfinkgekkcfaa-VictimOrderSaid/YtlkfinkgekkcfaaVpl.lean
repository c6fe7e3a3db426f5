/- Better is an order; the best ones are those than which none is better: plain. No further condition. -/
import Derived.Test.YtlkfinkgekkcfaaVc2
namespace Go.Proofs.Ytlkfinkgekkcfaa
open Go.RowKit

theorem cross_trans {a b c A B C : Int} (hA : 0 ≤ A) (hB : 0 ≤ B) (hC : 0 ≤ C) (hz : A = 0 ∧ B = 0 ∧ C = 0 ∨ 0 < A ∧ 0 < B ∧ 0 < C)
    (h1 : ¬ b * A < a * B) (h2 : ¬ c * B < b * C) : ¬ c * A < a * C := by
  rcases hz with ⟨rfl, rfl, rfl⟩ | ⟨pA, pB, pC⟩
  · simp
  · intro h3
    have e1 : a * B ≤ b * A := by omega
    have e2 : b * C ≤ c * B := by omega
    have f1 : a * B * C ≤ b * A * C := Int.mul_le_mul_of_nonneg_right e1 hC
    have f2 : b * C * A ≤ c * B * A := Int.mul_le_mul_of_nonneg_right e2 hA
    have f3 : c * A * B < a * C * B := Int.mul_lt_mul_of_pos_right h3 pB
    have g1 : a * B * C = a * C * B := by rw [Int.mul_assoc, Int.mul_comm B C, ← Int.mul_assoc]
    have g2 : b * A * C = b * C * A := by rw [Int.mul_assoc, Int.mul_comm A C, ← Int.mul_assoc]
    have g3 : c * B * A = c * A * B := by rw [Int.mul_assoc, Int.mul_comm B A, ← Int.mul_assoc]
    omega
theorem dn_pos (blocks : Int) : (∀ s : Sg, dn s (clip blocks) = 0) ∨ (∀ s : Sg, 0 < dn s (clip blocks)) := by
  obtain ⟨h0, h1⟩ := clip_in blocks
  rcases Int.lt_or_le 0 (clip blocks) with h | h
  · exact .inr fun s => by have := lives_in s _ h0; unfold dn; omega
  · exact .inl fun s => by have := lives_in s _ h0; unfold dn; omega
/-- What isn't worse than what isn't worse isn't worse. -/
theorem better_neg {p blocks now : Int} {a b c : Sg} (h1 : better p a b blocks now = false) (h2 : better p b c blocks now = false) : better p a c blocks now = false := by
  unfold better at *
  by_cases hp : p = 1
  · rw [if_pos hp] at *
    simp only [decide_eq_false_iff_not] at *
    obtain ⟨n0, n1⟩ := clip_in blocks
    refine cross_trans (dn_in a _ n0 n1).1 (dn_in b _ n0 n1).1 (dn_in c _ n0 n1).1 ?_ h1 h2
    rcases dn_pos blocks with h | h
    · exact .inl ⟨h a, h b, h c⟩
    · exact .inr ⟨h a, h b, h c⟩
  · rw [if_neg hp] at *
    simp only [decide_eq_false_iff_not] at *
    omega
theorem better_irr (p : Int) (a : Sg) (blocks now : Int) : better p a a blocks now = false := by
  unfold better
  split
  · exact decide_eq_false (by omega)
  · exact decide_eq_false (by omega)
theorem better_asym {p blocks now : Int} {a b : Sg} (h : better p a b blocks now = true) : better p b a blocks now = false := by
  unfold better at *
  by_cases hp : p = 1
  · rw [if_pos hp] at *; simp at *; omega
  · rw [if_neg hp] at *; simp at *; omega
theorem better_trans {p blocks now : Int} {a b c : Sg} (h1 : better p a b blocks now = true) (h2 : better p b c blocks now = true) : better p a c blocks now = true := by
  rcases h : better p a c blocks now with _ | _
  · have := better_neg h (better_asym h2)
    rw [h1] at this
    cases this
  · rfl

/-- Segment i, a zero one if there is none. -/
def sgD (l : List Sg) (i : Nat) : Sg := l.getD i (0, 0, 0)
/-- Among the first k: i is sealed, and no sealed one is better. -/
def okB (p blocks now : Int) (l : List Sg) (k i : Nat) : Bool :=
  decide ((sgD l i).1 = 2) && (List.range k).all fun j => !(decide ((sgD l j).1 = 2) && better p (sgD l j) (sgD l i) blocks now)
theorem okB_iff {p blocks now : Int} {l : List Sg} {k i : Nat} : okB p blocks now l k i = true ↔ (sgD l i).1 = 2 ∧ ∀ j, j < k → (sgD l j).1 = 2 → better p (sgD l j) (sgD l i) blocks now = false := by
  unfold okB
  simp only [Bool.and_eq_true, decide_eq_true_eq, List.all_eq_true, List.mem_range, Bool.not_eq_true', Bool.and_eq_false_iff, decide_eq_false_iff_not]
  constructor
  · rintro ⟨h1, h2⟩
    exact ⟨h1, fun j hj hs => (h2 j hj).resolve_left (fun h => h hs)⟩
  · rintro ⟨h1, h2⟩
    refine ⟨h1, fun j hj => ?_⟩
    by_cases hs : (sgD l j).1 = 2
    · exact .inr (h2 j hj hs)
    · exact .inl hs
theorem okB_ext (p blocks now : Int) (l : List Sg) (k i : Nat) : okB p blocks now l (k + 1) i = (okB p blocks now l k i && !(decide ((sgD l k).1 = 2) && better p (sgD l k) (sgD l i) blocks now)) := by
  unfold okB
  rw [List.range_succ, List.all_append, Bool.and_assoc]
  simp
theorem okB_some (p blocks now : Int) (l : List Sg) : ∀ k, (∃ j, j < k ∧ (sgD l j).1 = 2) → ∃ i, i < k ∧ okB p blocks now l k i = true := by
  intro k
  induction k with
  | zero => rintro ⟨j, hj, _⟩; omega
  | succ k ih =>
    rintro ⟨j, hj, hs⟩
    by_cases hk : ∃ j, j < k ∧ (sgD l j).1 = 2
    · obtain ⟨i, hi, ho⟩ := ih hk
      obtain ⟨o1, o2⟩ := okB_iff.1 ho
      by_cases hb : (sgD l k).1 = 2 ∧ better p (sgD l k) (sgD l i) blocks now = true
      · refine ⟨k, by omega, okB_iff.2 ⟨hb.1, fun m hm hms => ?_⟩⟩
        rcases Nat.lt_or_eq_of_le (Nat.le_of_lt_succ hm) with h | rfl
        · rcases h2 : better p (sgD l m) (sgD l k) blocks now with _ | _
          · rfl
          · have := better_trans h2 hb.2
            rw [o2 m h hms] at this
            cases this
        · exact better_irr _ _ _ _
      · refine ⟨i, by omega, ?_⟩
        rw [okB_ext, ho]
        simp only [Bool.true_and, Bool.not_eq_true', Bool.and_eq_false_iff, decide_eq_false_iff_not]
        by_cases hs2 : (sgD l k).1 = 2
        · right
          rcases h2 : better p (sgD l k) (sgD l i) blocks now with _ | _
          · rfl
          · exact absurd ⟨hs2, h2⟩ hb
        · exact .inl hs2
    · have hjk : j = k := by
        rcases Nat.lt_or_eq_of_le (Nat.le_of_lt_succ hj) with h | h
        · exact absurd ⟨j, h, hs⟩ hk
        · exact h
      subst hjk
      refine ⟨j, by omega, okB_iff.2 ⟨hs, fun m hm hms => ?_⟩⟩
      rcases Nat.lt_or_eq_of_le (Nat.le_of_lt_succ hm) with h | rfl
      · exact absurd ⟨m, h, hms⟩ hk
      · exact better_irr _ _ _ _
theorem filter_none {α : Type} {f : α → Bool} {l : List α} (h : ∀ x ∈ l, f x = false) : l.filter f = [] := List.filter_eq_nil_iff.2 fun x hx => by rw [h x hx]; simp
theorem bests_eq (p blocks now : Int) (l : List Sg) : ∀ k, bests p blocks now l k = (List.range k).filter (okB p blocks now l k) := by
  intro k
  induction k with
  | zero => rfl
  | succ k ih =>
    have hmem : ∀ i, i ∈ bests p blocks now l k ↔ i < k ∧ okB p blocks now l k i = true := fun i => by rw [ih]; simp [List.mem_filter]
    rw [List.range_succ, List.filter_append]
    unfold bests step
    show (if (sgD l k).1 = 2 then _ else _) = _
    by_cases hs : (sgD l k).1 = 2
    · rw [if_pos hs]
      rcases hb : bests p blocks now l k with _ | ⟨b, bs⟩
      · have hnone : ∀ j, j < k → (sgD l j).1 ≠ 2 := by
          intro j hj h
          obtain ⟨i, hi, ho⟩ := okB_some p blocks now l k ⟨j, hj, h⟩
          have := (hmem i).2 ⟨hi, ho⟩
          rw [hb] at this
          simp at this
        have e1 : (List.range k).filter (okB p blocks now l (k + 1)) = [] := filter_none fun i hi => by
          have := hnone i (List.mem_range.1 hi)
          unfold okB
          simp [this]
        have e2 : okB p blocks now l (k + 1) k = true := okB_iff.2 ⟨hs, fun j hj hjs => by
          rcases Nat.lt_or_eq_of_le (Nat.le_of_lt_succ hj) with h | rfl
          · exact absurd hjs (hnone j h)
          · exact better_irr _ _ _ _⟩
        simp [e1, e2]
      · have hbm := (hmem b).1 (by rw [hb]; simp)
        obtain ⟨b1, b2⟩ := okB_iff.1 hbm.2
        show (if better p (sgD l k) (sgD l b) blocks now = true then [k] else if better p (sgD l b) (sgD l k) blocks now = true then b :: bs else (b :: bs) ++ [k]) = _
        rcases h1 : better p (sgD l k) (sgD l b) blocks now with _ | _
        · rw [if_neg (by simp)]
          rcases h2 : better p (sgD l b) (sgD l k) blocks now with _ | _
          · rw [if_neg (by simp)]
            have e1 : (List.range k).filter (okB p blocks now l (k + 1)) = b :: bs := by
              rw [← hb, ih]
              refine List.filter_congr fun i hi => ?_
              rw [okB_ext]
              rcases ho : okB p blocks now l k i with _ | _
              · rfl
              · have := better_neg h1 ((okB_iff.1 ho).2 b hbm.1 b1)
                simp [this]
            have e2 : okB p blocks now l (k + 1) k = true := okB_iff.2 ⟨hs, fun j hj hjs => by
              rcases Nat.lt_or_eq_of_le (Nat.le_of_lt_succ hj) with h | rfl
              · exact better_neg (b2 j h hjs) h2
              · exact better_irr _ _ _ _⟩
            simp [e1, e2]
          · rw [if_pos rfl]
            have e1 : (List.range k).filter (okB p blocks now l (k + 1)) = b :: bs := by
              rw [← hb, ih]
              refine List.filter_congr fun i hi => ?_
              rw [okB_ext]
              rcases ho : okB p blocks now l k i with _ | _
              · rfl
              · have h3 := (okB_iff.1 ho).2 b hbm.1 b1
                rcases h4 : better p (sgD l k) (sgD l i) blocks now with _ | _
                · simp
                · rw [better_trans h2 h4] at h3; cases h3
            have e2 : okB p blocks now l (k + 1) k = false := by
              rcases ho : okB p blocks now l (k + 1) k with _ | _
              · rfl
              · have := (okB_iff.1 ho).2 b (by omega) b1
                rw [h2] at this
                cases this
            simp [e1, e2]
        · rw [if_pos rfl]
          have e1 : (List.range k).filter (okB p blocks now l (k + 1)) = [] := filter_none fun i hi => by
            rw [okB_ext]
            rcases ho : okB p blocks now l k i with _ | _
            · rfl
            · rcases h3 : better p (sgD l k) (sgD l i) blocks now with _ | _
              · have h4 := better_neg h3 (b2 i (List.mem_range.1 hi) (okB_iff.1 ho).1)
                rw [h1] at h4
                cases h4
              · simp [hs]
          have e2 : okB p blocks now l (k + 1) k = true := okB_iff.2 ⟨hs, fun j hj hjs => by
            rcases Nat.lt_or_eq_of_le (Nat.le_of_lt_succ hj) with h | rfl
            · rcases h3 : better p (sgD l j) (sgD l k) blocks now with _ | _
              · rfl
              · have h4 := better_trans h3 h1
                rw [b2 j h hjs] at h4
                cases h4
            · exact better_irr _ _ _ _⟩
          simp [e1, e2]
    · rw [if_neg hs, ih]
      have e1 : ∀ i, okB p blocks now l (k + 1) i = okB p blocks now l k i := fun i => by rw [okB_ext]; simp [hs]
      have e2 : okB p blocks now l (k + 1) k = false := by unfold okB; simp [hs]
      have e3 : (List.range k).filter (okB p blocks now l (k + 1)) = (List.range k).filter (okB p blocks now l k) := List.filter_congr fun i _ => e1 i
      rw [e3]
      simp [e2]
end Go.Proofs.Ytlkfinkgekkcfaa
