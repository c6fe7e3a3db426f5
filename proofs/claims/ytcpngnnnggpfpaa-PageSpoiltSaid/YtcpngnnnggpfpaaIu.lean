/- The law's Same of two images that are the same. No further condition. -/
import Derived.Test.YtcpngnnnggpfpaaIe
namespace Go.Proofs.Ytcpngnnnggpfpaa
open Go.RowKit
attribute [local go_sem ↓] Go.wp_at_zero Go.wp_at_succ

theorem sg_same (x : Nat × Nat) (W : World) : (binOp .neq 72 (.agg #[.int .i64 x.1, .int .u64 x.2]) (.agg #[.int .i64 x.1, .int .u64 x.2])).run Try.prog W = .ok (.bool false) W := by
  obtain ⟨a, b⟩ := x
  go_simp
set_option maxHeartbeats 1600000 in
theorem eqs_same (A B : Option Addr) (c d : Nat) (l : List (Nat × Nat)) (w : World) (ra : Rd w A (sgs l)) (rb : Rd w B (sgs l)) (hl : l.length ≤ 10000000) :
    Calls Try.prog 38 #[.slice A l.length c, .slice B l.length d] w fun e w' => e = .returned (.bool true) ∧ ∃ n, w' = w.drewN n := by
  go_enter Try.func38, Try.ntmps38
  go_wp2
  go_loopw [13] (fun i wr => ∃ k nq : Nat, k ≤ l.length ∧ i = .int .i64 k ∧ wr = w.drewN nq) (fun i _ => l.length - (intOf i).toNat)
  case atStart => exact ⟨0, 0, by omega, rfl, rfl⟩
  case round =>
    obtain ⟨k, nq, hk, rfl, rfl⟩ := hrel
    by_cases hlt : k < l.length
    · obtain ⟨x, hx⟩ : ∃ x, l[k]? = some x := ⟨_, List.getElem?_eq_getElem hlt⟩
      obtain ⟨ad, rfl, a0, a1⟩ := sgs_at ra hx
      obtain ⟨bd, rfl, b0, b1⟩ := sgs_at rb hx
      have g0 : (0 : Int) ≤ k := by omega
      have g1 : (k : Int) < l.length := by omega
      have hd := fun W => sg_same x W
      clear hx ra rb
      go_wp2
      go_quiet (fail)
      go_wp2
      go_roundw
      case rel => exact ⟨k + 1, _, by omega, by go_num, rfl⟩
      case measure => simp [intOf]; omega
    · obtain rfl : k = l.length := by omega
      clear ra rb
      go_wp2
      go_ret
      exact ⟨rfl, _, rfl⟩
set_option maxHeartbeats 1600000 in
theorem eqi_same (A B : Option Addr) (c d : Nat) (l : List Nat) (w : World) (ra : Rd w A (mps l)) (rb : Rd w B (mps l)) (hl : l.length ≤ 10000000) :
    Calls Try.prog 39 #[.slice A l.length c, .slice B l.length d] w fun e w' => e = .returned (.bool true) ∧ ∃ n, w' = w.drewN n := by
  go_enter Try.func39, Try.ntmps39
  go_wp2
  go_loopw [13] (fun i wr => ∃ k nq : Nat, k ≤ l.length ∧ i = .int .i64 k ∧ wr = w.drewN nq) (fun i _ => l.length - (intOf i).toNat)
  case atStart => exact ⟨0, 0, by omega, rfl, rfl⟩
  case round =>
    obtain ⟨k, nq, hk, rfl, rfl⟩ := hrel
    by_cases hlt : k < l.length
    · obtain ⟨x, hx⟩ : ∃ x, l[k]? = some x := ⟨_, List.getElem?_eq_getElem hlt⟩
      obtain ⟨ad, rfl, a0⟩ := mps_at ra hx
      obtain ⟨bd, rfl, b0⟩ := mps_at rb hx
      obtain ⟨z, hz⟩ : ∃ z, z = (x : Int) - 1 := ⟨_, rfl⟩
      rw [← hz] at a0 b0
      have g0 : (0 : Int) ≤ k := by omega
      have g1 : (k : Int) < l.length := by omega
      have hd : (z == z) = true := by simp
      have hd2 : (z != z) = false := by simp
      clear hx ra rb hz
      go_wp2
      go_quiet (fail)
      go_wp2
      go_roundw
      case rel => exact ⟨k + 1, _, by omega, by go_num, rfl⟩
      case measure => simp [intOf]; omega
    · obtain rfl : k = l.length := by omega
      clear ra rb
      go_wp2
      go_ret
      exact ⟨rfl, _, rfl⟩
set_option maxHeartbeats 3200000 in
theorem same_ok (y : Pic) (A B A' B' : Option Addr) (c d c' d' : Nat) (w : World) (ra : Rd w A (sgs y.cs)) (rb : Rd w B (mps y.mp)) (ra' : Rd w A' (sgs y.cs)) (rb' : Rd w B' (mps y.mp)) (hl : y.cs.length ≤ 10000000) (hm : y.mp.length ≤ 10000000) :
    Calls Try.prog 16 #[.agg #[.int .u64 y.sq, .int .i64 ((y.sg : Int) - 1), .int .i64 y.ix, .slice A y.cs.length c, .slice B y.mp.length d], .agg #[.int .u64 y.sq, .int .i64 ((y.sg : Int) - 1), .int .i64 y.ix, .slice A' y.cs.length c', .slice B' y.mp.length d']] w fun e w' => e = .returned (.bool true) ∧ Below w.heap.size w w' := by
  obtain ⟨sq, sg, ix, cs, mp⟩ := y
  simp only at ra rb ra' rb' hl hm ⊢
  obtain ⟨z1, hz1⟩ : ∃ z1, z1 = (sg : Int) - 1 := ⟨_, rfl⟩
  obtain ⟨z0, hz0⟩ : ∃ z0, z0 = (sq : Int) := ⟨_, rfl⟩
  obtain ⟨z2, hz2⟩ : ∃ z2, z2 = (ix : Int) := ⟨_, rfl⟩
  rw [← hz1, ← hz0, ← hz2]
  have e0 : (z0 == z0) = true := by simp
  have e1 : (z1 == z1) = true := by simp
  have e2 : (z2 == z2) = true := by simp
  have HA := Lib.hid ra
  have HB := Lib.hid rb
  have HA' := Lib.hid ra'
  have HB' := Lib.hid rb'
  have hbl : ∀ o1 o2, Below w.heap.size w ((w.alloc o1).alloc o2) := fun o1 o2 => ((Below.refl _ _).alloc (Nat.le_refl _) _).alloc (by simp) _
  have HBL := Lib.hid hbl
  clear hz0 hz1 hz2 ra rb ra' rb' hbl
  go_enter Try.func16, Try.ntmps16
  go_wp2_with (first
    | (go_at_call 38; refine (eqs_same A A' c c' cs _ (HA.out.later (HBL.out _ _)) (HA'.out.later (HBL.out _ _)) hl).mono ?_; rintro e W1 ⟨rfl, nq, rfl⟩)
    | (go_at_call 39; refine (eqi_same B B' d d' mp _ (HB.out.later (below_drewN (HBL.out _ _) _)) (HB'.out.later (below_drewN (HBL.out _ _) _)) hm).mono ?_; rintro e W2 ⟨rfl, nq2, rfl⟩))
  go_ret
  exact ⟨rfl, below_drewN (HBL.out _ _) _⟩
end Go.Proofs.Ytcpngnnnggpfpaa
