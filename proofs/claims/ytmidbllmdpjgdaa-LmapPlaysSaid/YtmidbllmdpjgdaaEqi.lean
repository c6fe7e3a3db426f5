/- The walk of slices.Equal over ints. No further condition. -/
import Derived.Test.YtmidbllmdpjgdaaByt
namespace Go.Proofs.Ytmidbllmdpjgdaa
open Go.RowKit

set_option maxHeartbeats 1600000 in
theorem equali_ok (A B : Option Addr) (c d : Nat) (l m : List Int) (w : World) (ra : Rd w A (l.map (.int .i64))) (rb : Rd w B (m.map (.int .i64))) (hl : l.length ≤ 1000000) :
    Calls Try.prog 11 #[.slice A l.length c, .slice B m.length d] w fun e w' => e = .returned (.bool (decide (l = m))) ∧ ∃ n, w' = w.drewN n := by
  obtain ⟨r, hr⟩ : ∃ r, r = decide (l = m) := ⟨_, rfl⟩
  rw [← hr]
  have HR := Lib.hid hr
  clear hr
  by_cases hlen : l.length = m.length
  · go_enter Try.func11, Try.ntmps11
    go_wp2
    go_loopw [13] (fun i wr => ∃ k nq : Nat, k ≤ l.length ∧ i = .int .i64 k ∧ l.take k = m.take k ∧ wr = w.drewN nq) (fun i _ => l.length - (intOf i).toNat)
    case atStart => exact ⟨0, 0, by omega, rfl, rfl, rfl⟩
    case round =>
      obtain ⟨k, nq, hk, rfl, ht, rfl⟩ := hrel
      by_cases hlt : k < l.length
      · obtain ⟨x, hx⟩ : ∃ x, l[k]? = some x := ⟨_, List.getElem?_eq_getElem hlt⟩
        obtain ⟨y, hy⟩ : ∃ y, m[k]? = some y := ⟨_, List.getElem?_eq_getElem (by omega)⟩
        obtain ⟨ad, rfl, a0⟩ := ra k (.int .i64 x) (by rw [List.getElem?_map, hx]; rfl)
        obtain ⟨bd, rfl, b0⟩ := rb k (.int .i64 y) (by rw [List.getElem?_map, hy]; rfl)
        have g0 : (0 : Int) ≤ k := by omega
        have g1 : (k : Int) < l.length := by omega
        have g2 : (k : Int) < m.length := by omega
        have HT := Lib.hid ht
        have HX := Lib.hid hx
        have HY := Lib.hid hy
        clear ht hx hy ra rb
        by_cases hxy : x = y
        · have hd : (x == y) = true := by simp [hxy]
          have hd2 : (x != y) = false := by simp [hxy]
          have HXY := Lib.hid hxy
          clear hxy
          go_wp2
          go_quiet (fail)
          go_wp2
          go_roundw
          case rel => exact ⟨k + 1, _, by omega, by go_num, by rw [take_snoc_pk HX.out, take_snoc_pk HY.out, HT.out, HXY.out], rfl⟩
          case measure => simp [intOf]; omega
        · have hd : (x == y) = false := by simp [hxy]
          have hd2 : (x != y) = true := by simp [hxy]
          have hne : decide (l = m) = false := decide_eq_false fun e => hxy (by have h1 := HX.out; rw [e, HY.out] at h1; injection h1 with h1; exact h1.symm)
          obtain rfl : r = false := HR.out.trans hne
          clear hxy hne
          go_wp2
          go_quiet (fail)
          go_wp2
          go_ret
          exact ⟨rfl, _, World.drewN_drewN _ _ _⟩
      · obtain rfl : k = l.length := by omega
        have hlm : l = m := by rw [List.take_length, List.take_of_length_le (by omega)] at ht; exact ht
        obtain rfl : r = true := HR.out.trans (decide_eq_true hlm)
        clear ht hlm ra rb
        go_wp2
        go_ret
        exact ⟨rfl, _, rfl⟩
  · have hne : decide (l = m) = false := decide_eq_false fun e => hlen (by rw [e])
    obtain rfl : r = false := HR.out.trans hne
    clear hne ra rb
    go_enter Try.func11, Try.ntmps11
    go_wp2
    go_ret
    exact ⟨rfl, 0, rfl⟩
end Go.Proofs.Ytmidbllmdpjgdaa
