/- The walks of slices.Equal over entries, and of the law's Same. No further condition. -/
import Derived.Test.YtbokddacobohnaaNt
namespace Go.Proofs.Ytbokddacobohnaa
open Go.RowKit
attribute [local go_sem ↓] Go.wp_at_zero Go.wp_at_succ

theorem en_neq (x y : En) (W : World) : (binOp .neq 48 (.agg #[.int .i64 x.1, .int .i64 x.2]) (.agg #[.int .i64 y.1, .int .i64 y.2])).run Try.prog W = .ok (.bool (!decide (x = y))) W := by
  obtain ⟨a, b⟩ := x
  obtain ⟨c, d⟩ := y
  go_simp
  by_cases h1 : a = c <;> by_cases h2 : b = d <;> simp [h1, h2, Int.ofNat_inj]
set_option maxHeartbeats 1600000 in
theorem eqe_ok (A B : Option Addr) (c d : Nat) (l m : List En) (w : World) (ra : Rd w A (ens l)) (rb : Rd w B (ens m)) (hl : l.length ≤ 10000000) :
    Calls Try.prog 20 #[.slice A l.length c, .slice B m.length d] w fun e w' => e = .returned (.bool (decide (l = m))) ∧ ∃ n, w' = w.drewN n := by
  obtain ⟨r, hr⟩ : ∃ r, r = decide (l = m) := ⟨_, rfl⟩
  rw [← hr]
  have HR := Lib.hid hr
  clear hr
  by_cases hlen : l.length = m.length
  · go_enter Try.func20, Try.ntmps20
    go_wp2
    go_loopw [13] (fun i wr => ∃ k nq : Nat, k ≤ l.length ∧ i = .int .i64 k ∧ l.take k = m.take k ∧ wr = w.drewN nq) (fun i _ => l.length - (intOf i).toNat)
    case atStart => exact ⟨0, 0, by omega, rfl, rfl, rfl⟩
    case round =>
      obtain ⟨k, nq, hk, rfl, ht, rfl⟩ := hrel
      by_cases hlt : k < l.length
      · obtain ⟨x, hx⟩ : ∃ x, l[k]? = some x := ⟨_, List.getElem?_eq_getElem hlt⟩
        obtain ⟨y, hy⟩ : ∃ y, m[k]? = some y := ⟨_, List.getElem?_eq_getElem (by omega)⟩
        obtain ⟨ad, rfl, a0, a1⟩ := ens_at ra hx
        obtain ⟨bd, rfl, b0, b1⟩ := ens_at rb hy
        have g0 : (0 : Int) ≤ k := by omega
        have g1 : (k : Int) < l.length := by omega
        have g2 : (k : Int) < m.length := by omega
        have HT := Lib.hid ht
        have HX := Lib.hid hx
        have HY := Lib.hid hy
        clear ht hx hy ra rb
        by_cases hxy : x = y
        · have hd := fun W => en_neq x y W
          rw [decide_eq_true hxy] at hd
          have HXY := Lib.hid hxy
          clear hxy
          go_wp2
          go_quiet (fail)
          go_wp2
          go_roundw
          case rel => exact ⟨k + 1, _, by omega, by go_num, by rw [take_snoc_pk HX.out, take_snoc_pk HY.out, HT.out, HXY.out], rfl⟩
          case measure => simp [intOf]; omega
        · have hd := fun W => en_neq x y W
          rw [decide_eq_false hxy] at hd
          have hne : decide (l = m) = false := decide_eq_false fun e => hxy (by have h1 := HX.out; rw [e, HY.out] at h1; injection h1 with h1; exact h1.symm)
          obtain rfl : r = false := HR.out.trans hne
          clear hxy hne
          go_wp2
          go_quiet (fail)
          go_wp2
          go_ret
          exact ⟨rfl, _, World.drewN_drewN _ _ _⟩
      · obtain rfl : k = l.length := by omega
        have hlm : l = m := by rw [List.take_length, List.take_of_length_le (by omega)] at ht; exact ht
        obtain rfl : r = true := HR.out.trans (decide_eq_true hlm)
        clear ht hlm ra rb
        go_wp2
        go_ret
        exact ⟨rfl, _, rfl⟩
  · have hne : decide (l = m) = false := decide_eq_false fun e => hlen (by rw [e])
    obtain rfl : r = false := HR.out.trans hne
    clear hne ra rb
    go_enter Try.func20, Try.ntmps20
    go_wp2
    go_ret
    exact ⟨rfl, 0, rfl⟩
/-- A note between calls: its slots' row. -/
structure NR (w : World) (B : Option Addr) (n c : Nat) (xs : List En) : Prop where
  rd : Rd w B (ens xs)
  len : n = xs.length
  few : xs.length ≤ 1000
theorem NR.later {w w' : World} {B : Option Addr} {n c : Nat} {xs : List En} (k : NR w B n c xs) (h : Below w.heap.size w w') : NR w' B n c xs := ⟨k.rd.later h, k.len, k.few⟩
set_option maxHeartbeats 3200000 in
theorem same_ok (s s' n n' : Int) (A B : Option Addr) (c d : Nat) (l m : List En) (w : World) (ra : Rd w A (ens l)) (rb : Rd w B (ens m)) (hl : l.length ≤ 10000000) :
    Calls Try.prog 11 #[.agg #[.int .u64 s, .int .i64 n, .slice A l.length c], .agg #[.int .u64 s', .int .i64 n', .slice B m.length d]] w fun e w' => e = .returned (.bool (decide ((s, n, l) = (s', n', m)))) ∧ Below w.heap.size w w' := by
  obtain ⟨r, hr⟩ : ∃ r, r = decide ((s, n, l) = (s', n', m)) := ⟨_, rfl⟩
  rw [← hr]
  have HR := Lib.hid hr
  have HA := Lib.hid ra
  have HB := Lib.hid rb
  have hbl : ∀ o1 o2, Below w.heap.size w ((w.alloc o1).alloc o2) := fun o1 o2 => ((Below.refl _ _).alloc (Nat.le_refl _) _).alloc (by simp) _
  have HBL := Lib.hid hbl
  clear hr ra rb hbl
  go_enter Try.func11, Try.ntmps11
  by_cases h1 : s = s'
  · have e1 : (s == s') = true := by simp [h1]
    by_cases h2 : n = n'
    · have e2 : (n == n') = true := by simp [h2]
      have HR2 : Hid (r = decide (l = m)) := Lib.hid (by rw [HR.out, h1, h2]; simp)
      clear h1 h2
      go_wp2_with (go_at_call 20; refine (eqe_ok A B c d l m _ (HA.out.later (HBL.out _ _)) (HB.out.later (HBL.out _ _)) hl).mono ?_; rintro e W ⟨rfl, nq, rfl⟩; rw [← HR2.out])
      go_ret
      exact ⟨rfl, below_drewN (HBL.out _ _) _⟩
    · have e2 : (n == n') = false := by simp [h2]
      obtain rfl : r = false := by rw [HR.out]; simp [h2]
      clear h1 h2
      go_wp2
      go_ret
      exact ⟨rfl, HBL.out _ _⟩
  · have e1 : (s == s') = false := by simp [h1]
    obtain rfl : r = false := by rw [HR.out]; simp [h1]
    clear h1
    go_wp2
    go_ret
    exact ⟨rfl, HBL.out _ _⟩
end Go.Proofs.Ytbokddacobohnaa
