/- The walks of First and of slices.Equal over ints. No further condition. -/
import Derived.Test.YtcnjpheeebjjbaaTb3
namespace Go.Proofs.Ytcnjpheeebjjbaa
open Go.RowKit

/-- The first free one's number, from a number on; -1: there is none. -/
def firstFree : List Sg → Nat → Int
  | [], _ => -1
  | x :: l, i => if x.1 == 0 then (i : Int) else firstFree l (i + 1)
theorem firstFree_none (l : List Sg) : ∀ i, (∀ x ∈ l, x.1 ≠ 0) → firstFree l i = -1 := by
  induction l with
  | nil => intro i _; rfl
  | cons a l ih => intro i h; unfold firstFree; rw [if_neg (by simpa using h a (by simp))]; exact ih _ fun x hx => h x (by simp [hx])
theorem firstFree_at (l : List Sg) : ∀ (i k : Nat) (x : Sg), l[k]? = some x → x.1 = 0 → (∀ y ∈ l.take k, y.1 ≠ 0) → firstFree l i = (i + k : Nat) := by
  induction l with
  | nil => intro i k x h; simp at h
  | cons a l ih =>
    intro i k x h hx hn
    unfold firstFree
    cases k with
    | zero => simp at h; subst h; rw [if_pos (by simpa using hx)]; simp
    | succ k =>
      rw [if_neg (by simpa using hn a (by simp))]
      rw [ih (i + 1) k x (by simpa using h) hx (fun y hy => hn y (by simp [hy]))]
      congr 1; omega

theorem firstFree_lo (l : List Sg) : ∀ i, -1 ≤ firstFree l i := by
  induction l with
  | nil => intro i; simp [firstFree]
  | cons a l ih => intro i; unfold firstFree; split; · omega
                   · exact ih _

set_option maxHeartbeats 800000 in
theorem first1_ok (x : Sg) (w : World) :
    Calls Try.prog 23 #[.agg #[.int .i64 x.1, .int .i64 x.2.1, .int .u64 x.2.2]] w fun e w' => e = .returned (.bool (x.1 == 0)) ∧ w' = w.alloc (.cells #[.int .i64 x.1, .int .i64 x.2.1, .int .u64 x.2.2] 30) := by
  go_enter Try.func23, Try.ntmps23
  go_wp2
  go_ret
  exact ⟨rfl, rfl⟩

set_option maxHeartbeats 1600000 in
theorem first_ok (g h : Nat) (l : List Sg) (w : World) (ht : Tab w g h l) :
    Calls Try.prog 17 #[.pointer (some ⟨g, 0, none⟩)] w fun e w' => e = .returned (.int .i64 (firstFree l 0)) ∧ Below w.heap.size w w' := by
  have hf := ht.few
  have hc := ht.c0
  obtain ⟨r, hr⟩ : ∃ r, r = firstFree l 0 := ⟨_, rfl⟩
  rw [← hr]
  have HR := Lib.hid hr
  clear hr
  go_enter Try.func17, Try.ntmps17
  go_wp2
  clear hc
  go_loopw [8] (fun i wr => ∃ k : Nat, k ≤ l.length ∧ i = .int .i64 k ∧ (∀ y ∈ l.take k, y.1 ≠ 0) ∧ Below w.heap.size w wr) (fun i _ => l.length - (intOf i).toNat)
  case atStart => exact ⟨0, by omega, rfl, by simp, Below.refl _ _⟩
  case round =>
    obtain ⟨k, hk, rfl, hno, hB⟩ := hrel
    have HNO := Lib.hid hno
    clear hno
    by_cases hlt : k < l.length
    · obtain ⟨x, hx⟩ : ∃ x, l[k]? = some x := ⟨_, List.getElem?_eq_getElem hlt⟩
      obtain ⟨c1, c2, c3⟩ := (ht.later hB).at_ hx
      have hsz := hB.size
      have HB := Lib.hid ((hB.alloc hB.size (.cells #[.int .i64 x.1, .int .i64 x.2.1, .int .u64 x.2.2] 30)))
      have hk1 := first1_ok x wr
      have HX := Lib.hid hx
      clear hx hB ht
      rcases Bool.eq_false_or_eq_true (x.1 == 0) with he | he
      · have hx0 : x.1 = 0 := by simpa using he
        rw [he] at hk1
        obtain rfl : r = k := HR.out.trans ((firstFree_at l 0 k x HX.out hx0 HNO.out).trans (by simp))
        clear he hx0
        go_wp2_with (go_at_call 23; refine hk1.mono ?_; rintro e w' ⟨rfl, rfl⟩)
        go_ret
        exact ⟨rfl, HB.out⟩
      · have hx0 : x.1 ≠ 0 := by simpa using he
        rw [he] at hk1
        have HX0 := Lib.hid hx0
        clear he hx0
        go_wp2_with (go_at_call 23; refine hk1.mono ?_; rintro e w' ⟨rfl, rfl⟩)
        go_roundw
        case rel =>
          refine ⟨k + 1, by omega, by go_num, ?_, HB.out⟩
          rw [take_snoc_of HX.out]
          intro y hy
          rcases List.mem_append.1 hy with h1 | h1
          · exact HNO.out y h1
          · rw [List.mem_singleton.1 h1]; exact HX0.out
        case measure => simp [intOf]; omega
    · obtain rfl : k = l.length := by omega
      obtain rfl : r = -1 := HR.out.trans (firstFree_none l 0 (by have := HNO.out; rwa [List.take_length] at this))
      go_wp2
      go_ret
      exact ⟨rfl, hB⟩

set_option maxHeartbeats 1600000 in
theorem equali_ok (A B : Option Addr) (c d : Nat) (l m : List Int) (w : World) (ra : Rd w A (l.map (.int .i64))) (rb : Rd w B (m.map (.int .i64))) (hl : l.length ≤ 1000000) :
    Calls Try.prog 25 #[.slice A l.length c, .slice B m.length d] w fun e w' => e = .returned (.bool (decide (l = m))) ∧ ∃ n, w' = w.drewN n := by
  obtain ⟨r, hr⟩ : ∃ r, r = decide (l = m) := ⟨_, rfl⟩
  rw [← hr]
  have HR := Lib.hid hr
  clear hr
  by_cases hlen : l.length = m.length
  · go_enter Try.func25, Try.ntmps25
    go_wp2
    go_loopw [13] (fun i wr => ∃ k nq : Nat, k ≤ l.length ∧ i = .int .i64 k ∧ l.take k = m.take k ∧ wr = w.drewN nq) (fun i _ => l.length - (intOf i).toNat)
    case atStart => exact ⟨0, 0, by omega, rfl, rfl, rfl⟩
    case round =>
      obtain ⟨k, nq, hk, rfl, ht, rfl⟩ := hrel
      by_cases hlt : k < l.length
      · obtain ⟨x, hx⟩ : ∃ x, l[k]? = some x := ⟨_, List.getElem?_eq_getElem hlt⟩
        obtain ⟨y, hy⟩ : ∃ y, m[k]? = some y := ⟨_, List.getElem?_eq_getElem (by omega)⟩
        obtain ⟨ad, rfl, a0⟩ := ra k (.int .i64 x) (by rw [List.getElem?_map, hx]; rfl)
        obtain ⟨bd, rfl, b0⟩ := rb k (.int .i64 y) (by rw [List.getElem?_map, hy]; rfl)
        have g0 : (0 : Int) ≤ k := by omega
        have g1 : (k : Int) < l.length := by omega
        have g2 : (k : Int) < m.length := by omega
        have HT := Lib.hid ht
        have HX := Lib.hid hx
        have HY := Lib.hid hy
        clear ht hx hy ra rb
        by_cases hxy : x = y
        · have hd : (x == y) = true := by simp [hxy]
          have hd2 : (x != y) = false := by simp [hxy]
          have HXY := Lib.hid hxy
          clear hxy
          go_wp2
          go_quiet (fail)
          go_wp2
          go_roundw
          case rel => exact ⟨k + 1, _, by omega, by go_num, by rw [take_snoc_of HX.out, take_snoc_of HY.out, HT.out, HXY.out], rfl⟩
          case measure => simp [intOf]; omega
        · have hd : (x == y) = false := by simp [hxy]
          have hd2 : (x != y) = true := by simp [hxy]
          have hne : decide (l = m) = false := decide_eq_false fun e => hxy (by have h1 := HX.out; rw [e, HY.out] at h1; injection h1 with h1; exact h1.symm)
          obtain rfl : r = false := HR.out.trans hne
          clear hxy hne
          go_wp2
          go_quiet (fail)
          go_wp2
          go_ret
          exact ⟨rfl, _, World.drewN_drewN _ _ _⟩
      · obtain rfl : k = l.length := by omega
        have hlm : l = m := by rw [List.take_length, List.take_of_length_le (by omega)] at ht; exact ht
        obtain rfl : r = true := HR.out.trans (decide_eq_true hlm)
        clear ht hlm ra rb
        go_wp2
        go_ret
        exact ⟨rfl, _, rfl⟩
  · have hne : decide (l = m) = false := decide_eq_false fun e => hlen (by rw [e])
    obtain rfl : r = false := HR.out.trans hne
    clear hne ra rb
    go_enter Try.func25, Try.ntmps25
    go_wp2
    go_ret
    exact ⟨rfl, 0, rfl⟩
end Go.Proofs.Ytcnjpheeebjjbaa
