/- The walk of NvRises. No further condition. -/
import Derived.Test.YtgcmfcdbgimnjaaNv8
namespace Go.Proofs.Ytgcmfcdbgimnjaa
open Go.RowKit
attribute [local go_sem ↓] Go.wp_at_zero Go.wp_at_succ

theorem act_at {w : World} {A : Option Addr} {l : List Av} (h : Rd w A (acs l)) {k : Nat} {x : Av} (hi : l[k]? = some x) : ∃ a : Addr, A = some a ∧ w.cell? (a.add (k * 15)) = some (.int .u8 x.d) ∧ w.cell? ⟨(a.add (k * 15)).block, (a.add (k * 15)).off + 1, none⟩ = some (.int .u8 x.k) ∧ w.cell? ⟨(a.add (k * 15)).block, (a.add (k * 15)).off + 2, none⟩ = some (.int .i64 x.lba) ∧ w.cell? ⟨(a.add (k * 15)).block, (a.add (k * 15)).off + 3, none⟩ = some (.slice x.A x.raw.length x.c) ∧ w.cell? ⟨(a.add (k * 15)).block, (a.add (k * 15)).off + 4, none⟩ = some (.int .u64 x.dur) ∧ w.cell? ⟨(a.add (k * 15)).block, (a.add (k * 15)).off + 5, none⟩ = some (.int .u8 x.up) ∧ w.cell? ⟨(a.add (k * 15)).block, (a.add (k * 15)).off + 6, none⟩ = some (.int .i64 x.r.m) ∧ w.cell? ⟨(a.add (k * 15)).block, (a.add (k * 15)).off + 7, none⟩ = some (.int .i64 x.r.b) ∧ w.cell? ⟨(a.add (k * 15)).block, (a.add (k * 15)).off + 8, none⟩ = some (.int .i64 x.r.s) ∧ w.cell? ⟨(a.add (k * 15)).block, (a.add (k * 15)).off + 9, none⟩ = some (.int .i64 x.r.t) ∧ w.cell? ⟨(a.add (k * 15)).block, (a.add (k * 15)).off + 10, none⟩ = some (.int .i64 x.r.n) ∧ w.cell? ⟨(a.add (k * 15)).block, (a.add (k * 15)).off + 11, none⟩ = some (.int .i64 x.r.l) ∧ w.cell? ⟨(a.add (k * 15)).block, (a.add (k * 15)).off + 12, none⟩ = some (.int .u64 x.r.gen) ∧ w.cell? ⟨(a.add (k * 15)).block, (a.add (k * 15)).off + 13, none⟩ = some (.int .u64 x.r.dur) ∧ w.cell? ⟨(a.add (k * 15)).block, (a.add (k * 15)).off + 14, none⟩ = some (.int .i64 x.r.stale) := by
  have q : ∀ j, j < 15 → ∀ u, (acv x)[j]? = some u → ∃ a, A = some a ∧ w.cell? (a.add (k * 15 + j)) = some u := fun j hj u hu => h (k * 15 + j) u ((flat_get acv acv_len l k j x hj hi).trans hu)
  obtain ⟨a, rfl, h0⟩ := q 0 (by decide) _ rfl
  refine ⟨a, rfl, h0, ?_, ?_, ?_, ?_, ?_, ?_, ?_, ?_, ?_, ?_, ?_, ?_, ?_, ?_⟩
  · obtain ⟨_, e, h1⟩ := q 1 (by decide) _ rfl
    injection e with e
    subst e
    rw [← add_field _ _ _ (by decide)]
    exact h1
  · obtain ⟨_, e, h1⟩ := q 2 (by decide) _ rfl
    injection e with e
    subst e
    rw [← add_field _ _ _ (by decide)]
    exact h1
  · obtain ⟨_, e, h1⟩ := q 3 (by decide) _ rfl
    injection e with e
    subst e
    rw [← add_field _ _ _ (by decide)]
    exact h1
  · obtain ⟨_, e, h1⟩ := q 4 (by decide) _ rfl
    injection e with e
    subst e
    rw [← add_field _ _ _ (by decide)]
    exact h1
  · obtain ⟨_, e, h1⟩ := q 5 (by decide) _ rfl
    injection e with e
    subst e
    rw [← add_field _ _ _ (by decide)]
    exact h1
  · obtain ⟨_, e, h1⟩ := q 6 (by decide) _ rfl
    injection e with e
    subst e
    rw [← add_field _ _ _ (by decide)]
    exact h1
  · obtain ⟨_, e, h1⟩ := q 7 (by decide) _ rfl
    injection e with e
    subst e
    rw [← add_field _ _ _ (by decide)]
    exact h1
  · obtain ⟨_, e, h1⟩ := q 8 (by decide) _ rfl
    injection e with e
    subst e
    rw [← add_field _ _ _ (by decide)]
    exact h1
  · obtain ⟨_, e, h1⟩ := q 9 (by decide) _ rfl
    injection e with e
    subst e
    rw [← add_field _ _ _ (by decide)]
    exact h1
  · obtain ⟨_, e, h1⟩ := q 10 (by decide) _ rfl
    injection e with e
    subst e
    rw [← add_field _ _ _ (by decide)]
    exact h1
  · obtain ⟨_, e, h1⟩ := q 11 (by decide) _ rfl
    injection e with e
    subst e
    rw [← add_field _ _ _ (by decide)]
    exact h1
  · obtain ⟨_, e, h1⟩ := q 12 (by decide) _ rfl
    injection e with e
    subst e
    rw [← add_field _ _ _ (by decide)]
    exact h1
  · obtain ⟨_, e, h1⟩ := q 13 (by decide) _ rfl
    injection e with e
    subst e
    rw [← add_field _ _ _ (by decide)]
    exact h1
  · obtain ⟨_, e, h1⟩ := q 14 (by decide) _ rfl
    injection e with e
    subst e
    rw [← add_field _ _ _ (by decide)]
    exact h1
def r7 : Rt := ⟨0, 0, 0, 0, 7, 0, 0, 0, 0⟩
def Sr (w0 w : World) (g h b n : Nat) (f : Int → Option Int) (K : Nat) : Prop := ∃ used l next, NvM w0 w g h used l next r7 b n f ∧ Pk (l.map Rc.con) next f ∧ l.length ≤ 7 ∧ used ≤ K ∧ next ≤ K ∧ 0 < next
def Sm (w0 w : World) (g h b n : Nat) (f : Int → Option Int) (K B : Nat) (v : Value) (m : List Rc) : Prop := ∃ used l next, NvM w0 w g h used l next r7 b n f ∧ Pk (m.map Rc.con) next f ∧ m.map Rc.con = l.map Rc.con ∧ l.length ≤ 7 ∧ used ≤ K ∧ next ≤ K ∧ 0 < next ∧ Rw w B v m
section
variable {w0 w w' : World} {g h b n K B : Nat} {f : Int → Option Int} {v : Value} {m : List Rc}
theorem Sr.later (s : Sr w0 w g h b n f K) (hb : Below w.heap.size w w') : Sr w0 w' g h b n f K := by
  obtain ⟨u, l, x, h1, h2⟩ := s
  exact ⟨u, l, x, h1.later hb, h2⟩
theorem Sr.bel (s : Sr w0 w g h b n f K) : Below w0.heap.size w0 w := by
  obtain ⟨u, l, x, h1, h2⟩ := s
  exact h1.nv.bel
theorem Sm.later (s : Sm w0 w g h b n f K B v m) (hb : Below w.heap.size w w') : Sm w0 w' g h b n f K B v m := by
  obtain ⟨u, l, x, h1, h2, h3, h4, h5, h6, h7, h8⟩ := s
  exact ⟨u, l, x, h1.later hb, h2, h3, h4, h5, h6, h7, h8.later hb⟩
theorem Sm.back (s : Sm w0 w g h b n f K B v m) : Sr w0 w g h b n f K := by
  obtain ⟨u, l, x, h1, h2, h3, h4, h5, h6, h7, h8⟩ := s
  exact ⟨u, l, x, h1, by rw [← h3]; exact h2, h4, h5, h6, h7⟩
theorem Sm.im (s : Sm w0 w g h b n f K B v m) : IM Try.prog 31 3 .u64 w b n f := by
  obtain ⟨u, l, x, h1, h2⟩ := s
  exact h1.im
theorem Sm.row (s : Sm w0 w g h b n f K B v m) : Rw w B v m := by
  obtain ⟨u, l, x, h1, h2, h3, h4, h5, h6, h7, h8⟩ := s
  exact h8
/-- What is known of the record that comes next. -/
theorem Sm.at_ (s : Sm w0 w g h b n f K B v m) {x : Rc} (hx : x ∈ m) : 0 < x.seq ∧ x.seq < K ∧ (Lit.int .i64 x.lba).wf = true ∧ ∀ v, f x.seq = some v → v = x.lba := by
  obtain ⟨u, l, y, h1, h2, h3, h4, h5, h6, h7, h8⟩ := s
  obtain ⟨q1, q2, q3, q4⟩ := h2.each x.con (List.mem_map_of_mem hx)
  exact ⟨q1, Int.lt_of_lt_of_le q2 h6, q3, q4⟩
theorem Sm.up (s : Sm w0 w g h b n f K B v m) {i j : Nat} {x y : Rc} (hx : m[i]? = some x) (hy : m[j]? = some y) (hij : i < j) : x.seq < y.seq := by
  obtain ⟨u, l, z, h1, h2, -⟩ := s
  have := List.pairwise_iff_getElem.1 h2.up i j (by simpa using (List.getElem?_eq_some_iff.1 hx).1) (by simpa using (List.getElem?_eq_some_iff.1 hy).1) hij
  obtain ⟨i1, rfl⟩ := List.getElem?_eq_some_iff.1 hx
  obtain ⟨j1, rfl⟩ := List.getElem?_eq_some_iff.1 hy
  simpa [Rc.con] using this
theorem Sm.store {n2 : Nat} {x : Rc} (s : Sm w0 w g h b n f K B v m) (hx : x ∈ m) (i : IM Try.prog 31 3 .u64 w' b n2 (updM f x.seq x.lba)) (hg : w.grownBy w' (some b)) : Sm w0 w' g h b n2 (updM f x.seq x.lba) K B v m := by
  obtain ⟨u, l, z, h1, h2, h3, h4, h5, h6, h7, h8⟩ := s
  exact ⟨u, l, z, h1.store i hg, h2.store (c := x.con) (List.mem_map_of_mem hx), h3, h4, h5, h6, h7, h8.store h1.im hg⟩
theorem step_app (s : Sr w0 w g h b n f K) (hK : K ≤ 900) (kd lb : Int) (hl : (Lit.int .i64 lb).wf = true) :
    Calls Try.prog 12 #[.pointer (some ⟨g, 0, none⟩), .int .i64 kd, .int .i64 lb, .slice none 0 0] w fun e w' => ∃ z : Int, e = .returned (.int .i64 z) ∧ Sr w0 w' g h b n f (K + 1) := by
  obtain ⟨u, l, x, h1, h2, h3, h4, h5, h6⟩ := s
  refine (appM h1 kd lb (by omega) (by omega) (by omega)).mono ?_
  rintro e w' ⟨z, rfl, ⟨y, hy, hn, hm⟩ | hm⟩
  · refine ⟨z, rfl, _, _, _, hm, ?_, ?_, by omega, by omega, by omega⟩
    · rw [List.map_append, List.map_singleton, hy]
      exact h2.push h6 kd lb [] hl
    · have : r7.n = 7 := rfl
      simp; omega
  · exact ⟨z, rfl, _, _, _, hm, h2, h3, by omega, by omega, h6⟩
theorem step_com (s : Sr w0 w g h b n f K) (hK : K ≤ 900) (q : Int) :
    Calls Try.prog 11 #[.pointer (some ⟨g, 0, none⟩), .int .u64 0, .int .u64 q] w fun e w' => e = .returned (.tuple #[]) ∧ Sr w0 w' g h b n f (K + 1) := by
  obtain ⟨u, l, x, h1, h2, h3, h4, h5, h6⟩ := s
  refine (comM h1 0 q (by omega)).mono ?_
  rintro e w' ⟨rfl, hm⟩
  exact ⟨rfl, _, _, _, hm, h2.keep q, by have := keep_len q l; omega, by omega, by omega, h6⟩
theorem step_rec (s : Sr w0 w g h b n f K) :
    Calls Try.prog 13 #[.pointer (some ⟨g, 0, none⟩)] w fun e w' => ∃ v m, e = .returned v ∧ m.length ≤ 7 ∧ Sm w0 w' g h b n f K w.heap.size v m := by
  obtain ⟨u, l, x, h1, h2, h3, h4, h5, h6⟩ := s
  refine (recL h1.nv).mono ?_
  rintro e w' ⟨v, m, rfl, hm, hr, hb⟩
  exact ⟨v, m, rfl, by have := congrArg List.length hm; simp at this; omega, u, l, x, h1.later hb, by rw [hm]; exact h2, hm, h3, h4, h5, h6, hr⟩
theorem step_len (s : Sr w0 w g h b n f K) :
    Calls Try.prog 14 #[.pointer (some ⟨g, 0, none⟩)] w fun e w' => ∃ z : Nat, z ≤ 7 ∧ e = .returned (.int .i64 z) ∧ w' = w := by
  obtain ⟨u, l, x, h1, h2, h3, h4, h5, h6⟩ := s
  refine (lenL h1.nv).mono ?_
  rintro e w' ⟨rfl, rfl⟩
  exact ⟨l.length, h3, rfl, rfl⟩
end
end Go.Proofs.Ytgcmfcdbgimnjaa
