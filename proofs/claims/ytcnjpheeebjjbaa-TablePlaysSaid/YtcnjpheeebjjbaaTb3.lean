/- The walks of Clear, Many, Dead, All. No further condition. -/
import Derived.Test.YtcnjpheeebjjbaaTb2
namespace Go.Proofs.Ytcnjpheeebjjbaa
open Go.RowKit

/-! ### plain -/
def cnt (s : Int) (l : List Sg) : Nat := (l.filter fun x => x.1 == s).length
theorem cnt_le (s : Int) (l : List Sg) : cnt s l ≤ l.length := List.length_filter_le _ _
theorem cnt_snoc (s : Int) (l : List Sg) (k : Nat) (x : Sg) (h : l[k]? = some x) : cnt s (l.take (k + 1)) = cnt s (l.take k) + if x.1 == s then 1 else 0 := by
  obtain ⟨hk, rfl⟩ := List.getElem?_eq_some_iff.1 h
  rw [List.take_succ_eq_append_getElem hk]
  unfold cnt
  rw [List.filter_append, List.length_append]
  by_cases e : l[k].1 == s <;> simp [e]
def isDead (x : Sg) : Bool := x.1 == 2 && x.2.1 == 0
/-- The dead ones' numbers, from a number on. -/
def deads : List Sg → Nat → List Int
  | [], _ => []
  | x :: l, i => if isDead x then (i : Int) :: deads l (i + 1) else deads l (i + 1)
theorem deads_len (l : List Sg) : ∀ i, (deads l i).length ≤ l.length := by
  induction l with
  | nil => intro i; simp [deads]
  | cons x l ih => intro i; have := ih (i + 1); unfold deads; split <;> simp <;> omega
theorem deads_append (l m : List Sg) : ∀ i, deads (l ++ m) i = deads l i ++ deads m (i + l.length) := by
  induction l with
  | nil => intro i; simp [deads]
  | cons x l ih =>
    intro i
    simp only [List.cons_append, deads, ih, List.length_cons, show i + (l.length + 1) = i + 1 + l.length by omega]
    split <;> simp
theorem deads_snoc (l : List Sg) (k : Nat) (x : Sg) (h : l[k]? = some x) : deads (l.take (k + 1)) 0 = deads (l.take k) 0 ++ if isDead x then [(k : Int)] else [] := by
  obtain ⟨hk, rfl⟩ := List.getElem?_eq_some_iff.1 h
  rw [List.take_succ_eq_append_getElem hk, deads_append]
  have e : 0 + (l.take k).length = k := by simp; omega
  rw [e]
  simp [deads]

/-! ### the walks -/
set_option maxHeartbeats 800000 in
theorem clear_none (g : Nat) (w : World) :
    Calls Try.prog 12 #[.pointer (some ⟨g, 0, none⟩), .slice none 0 0] w fun e w' => e = .returned (.tuple #[]) ∧ w = w' := by
  go_enter Try.func12, Try.ntmps12
  go_wp2
  go_loopw [8] (fun i wr => i = .int .i64 0 ∧ w = wr) (fun _ _ => 0)
  case atStart => exact ⟨rfl, rfl⟩
  case round =>
    obtain ⟨rfl, rfl⟩ := hrel
    go_wp2
    go_end0
    exact ⟨rfl, rfl⟩
set_option maxHeartbeats 1600000 in
theorem clear_one (g h b : Nat) (i : Int) (l : List Sg) (w : World) (ht : Tab w g h l) (hb : Blk w b 3 #[.int .i64 i]) :
    Calls Try.prog 12 #[.pointer (some ⟨g, 0, none⟩), .slice (some ⟨b, 0, none⟩) 1 1] w fun e w' => e = .returned (.tuple #[]) ∧ TabTo w w' g h (upd l i fun _ => (0, 0, 0)) := by
  have hc := (hb.cell 0).trans rfl
  have hs := set_any g h i l (0, 0, 0) w ht
  go_enter Try.func12, Try.ntmps12
  go_wp2
  go_loopw [8] (fun v wr => (v = .int .i64 0 ∧ w = wr) ∨ (v = .int .i64 1 ∧ TabTo w wr g h (upd l i fun _ => (0, 0, 0)))) (fun v _ => 1 - (intOf v).toNat)
  case atStart => exact .inl ⟨rfl, rfl⟩
  case round =>
    rcases hrel with ⟨rfl, rfl⟩ | ⟨rfl, ht1⟩
    · go_wp2_with (go_at_call 18; refine hs.mono ?_; rintro e w' ⟨rfl, ht1⟩)
      go_roundw
      case rel => exact .inr ⟨rfl, ht1⟩
      case measure => simp [intOf]
    · go_wp2
      go_end0
      exact ⟨rfl, ht1⟩
set_option maxHeartbeats 1600000 in
theorem many_ok (g h : Nat) (s : Int) (l : List Sg) (w : World) (ht : Tab w g h l) :
    Calls Try.prog 14 #[.pointer (some ⟨g, 0, none⟩), .int .i64 s] w fun e w' => e = .returned (.int .i64 (cnt s l)) ∧ Below w.heap.size w w' := by
  have hc := ht.c0
  have hf := ht.few
  go_enter Try.func14, Try.ntmps14
  go_wp2
  clear hc
  go_loopw [5, 13] (fun n i wr => ∃ k : Nat, k ≤ l.length ∧ i = .int .i64 k ∧ n = .int .i64 (cnt s (l.take k)) ∧ Below w.heap.size w wr) (fun _ i _ => l.length - (intOf i).toNat)
  case atStart => exact ⟨0, by omega, rfl, rfl, Below.refl _ _⟩
  case round =>
    obtain ⟨k, hk, rfl, rfl, hB⟩ := hrel
    have hle := cnt_le s (l.take k)
    have hle2 : (l.take k).length ≤ k := List.length_take_le _ _
    by_cases hlt : k < l.length
    · obtain ⟨x, hx⟩ : ∃ x, l[k]? = some x := ⟨_, List.getElem?_eq_getElem hlt⟩
      obtain ⟨c1, c2, c3⟩ := (ht.later hB).at_ hx
      have HN := Lib.hid (cnt_snoc s l k x hx)
      have hsz := hB.size
      have HB := Lib.hid ((hB.alloc hB.size (.cells #[.int .i64 x.1, .int .i64 x.2.1, .int .u64 x.2.2] 30)))
      clear hx hB
      rcases Bool.eq_false_or_eq_true (x.1 == s) with he | he
      all_goals
        go_wp2
        go_roundw
        case rel => exact ⟨k + 1, by omega, by go_num, by rw [HN.out, he]; first | rfl | go_num, HB.out⟩
        case measure => simp [intOf]; omega
    · obtain rfl : k = l.length := by omega
      go_wp2
      go_ret
      exact ⟨by rw [List.take_length]; rfl, hB⟩
theorem sgs_one (l : List Sg) : ∀ u ∈ sgs l, u.oneCell' = true := by
  intro u hu
  obtain ⟨s, _, hs⟩ := List.mem_flatMap.1 hu
  simp [sgv] at hs
  rcases hs with rfl | rfl | rfl <;> rfl
theorem all_ok0 (g h : Nat) (l : List Sg) (w : World) (ht : Tab w g h l) :
    Calls Try.prog 20 #[.slice (some ⟨h, 0, none⟩) l.length l.length] w fun e w' => ∃ v, e = .returned v ∧ w'.ownsRow w.heap.size 30 3 v l.length (sgs l) ∧ Below w.heap.size w w' := by
  obtain ⟨i0, hi0, hz0, hz1, hz2⟩ := info_parts (show (Try.prog.info? 30).map (fun i => (i.zero, i.size, i.bytes)) = some (some (.agg #[.int .i64 0, .int .i64 0, .int .u64 0]), 3, 24) by kernel_rfl)
  have hf := ht.few
  have hne := fun (W : World) => Lib.run_eql_slice_nil (P := Try.prog) W 25 30 (some ⟨h, 0, none⟩) l.length l.length 0 0 Try.underlying25
  have hA := (Below.refl w.heap.size w).alloc (Nat.le_refl _) (.cells #[] 30)
  have ht1 := ht.later hA
  have hr : Rd (w.alloc (.cells #[] 30)) (some ⟨h, 0, none⟩) (sgs l) := by
    have := Rd.of_blk ht1.row 0 (l.length * 3)
    rw [List.drop_zero, List.take_of_length_le (by simp [sgs_len])] at this
    exact this
  have hn := Blk.new w 30 #[]
  have HR := Lib.hid hr
  have HN := Lib.hid hn
  have HA := Lib.hid hA
  clear hr ht ht1 hA hn
  go_enter Try.func20, Try.ntmps20
  go_wp2_with (at_builtin; refine wpList_append_any _ rfl _ _ 25 rfl w.heap.size 30 i0 _ 3 24 Try.underlying25 hi0 hz0 hz1 hz2 rfl (by decide) (.slice (some ⟨w.heap.size, 0, none⟩) 0 0) 0 [] rfl (ownsRow_empty _ _ _ _ _ 0 _ (Nat.le_refl _) HN.out (by unfold maxLen; omega) rfl) (some ⟨h, 0, none⟩) l.length l.length (sgs l) rfl (sgs_len l) HR.out (sgs_one l) (by unfold maxLen; omega) (by omega) (by simp) ?_; intro v1 w1 hown1 hg1 hat1)
  go_ret
  refine ⟨v1, rfl, by simpa using hown1, HA.out.trans (below_of_grown hg1 (by simp) fun b hb => ?_)⟩
  injection hb with hb
  exact Nat.le_of_eq hb
set_option maxHeartbeats 1600000 in
theorem dead_ok (g h : Nat) (l : List Sg) (w : World) (ht : Tab w g h l) :
    Calls Try.prog 16 #[.pointer (some ⟨g, 0, none⟩)] w fun e w' => ∃ v, e = .returned v ∧ w'.ownsRow w.heap.size 3 1 v (deads l 0).length ((deads l 0).map (.int .i64)) ∧ Below w.heap.size w w' := by
  have hc := ht.c0
  have hf := ht.few
  obtain ⟨i0, hi0, hz0, hz1, hz2⟩ := info_parts (show (Try.prog.info? 3).map (fun i => (i.zero, i.size, i.bytes)) = some (some (.int .i64 0), 1, 8) by kernel_rfl)
  go_enter Try.func16, Try.ntmps16
  go_wp2
  clear hc
  go_loopw [3, 11] (fun v i wr => ∃ k : Nat, k ≤ l.length ∧ i = .int .i64 k ∧ wr.ownsRow w.heap.size 3 1 v (deads (l.take k) 0).length ((deads (l.take k) 0).map (.int .i64)) ∧ Below w.heap.size w wr) (fun _ i _ => l.length - (intOf i).toNat)
  case atStart => exact ⟨0, by omega, rfl, World.ownsRow_nil _ _ _ _, Below.refl _ _⟩
  case round =>
    obtain ⟨k, hk, rfl, hown, hB⟩ := hrel
    have hle := deads_len (l.take k) 0
    have hle2 : (l.take k).length ≤ k := List.length_take_le _ _
    by_cases hlt : k < l.length
    · obtain ⟨x, hx⟩ : ∃ x, l[k]? = some x := ⟨_, List.getElem?_eq_getElem hlt⟩
      obtain ⟨c1, c2, c3⟩ := (ht.later hB).at_ hx
      have hsn := deads_snoc l k x hx
      have hsz := hB.size
      have hB1 := hB.alloc hB.size (.cells #[.int .i64 x.1, .int .i64 x.2.1, .int .u64 x.2.2] 30)
      clear hx
      obtain ⟨D, hD⟩ : ∃ D, D = deads (l.take k) 0 := ⟨_, rfl⟩
      rw [← hD] at hown hle hsn
      have HD := Lib.hid hD
      have HS := Lib.hid hsn
      have HB1 := Lib.hid hB1
      have HO := Lib.hid hown
      clear hD hsn hB1 hB hown
      by_cases e1 : x.1 = 2
      · by_cases e2 : x.2.1 = 0
        · have hd : isDead x = true := by simp [isDead, e1, e2]
          have hd1 : (x.1 == 2) = true := by simp [e1]
          have hd2 : (x.2.1 == 0) = true := by simp [e2]
          clear e1 e2
          have HD2 := Lib.hid hd
          clear hd
          go_wp2_with (at_builtin; refine wpList_append_any _ rfl _ _ 43 rfl w.heap.size 3 i0 (.int .i64 0) 1 8 Try.underlying43 hi0 hz0 hz1 hz2 rfl (by decide) _ D.length (D.map (.int .i64)) rfl ((HO.out.alloc _).alloc _) (some ⟨wr.heap.size + 1, 0, none⟩) 1 1 [.int .i64 k] rfl rfl (Rd.one _ _ _ (by simp)) (by intro u hu; simp at hu; subst hu; rfl) (by unfold maxLen; omega) (by omega) (by simp; omega) ?_; intro v1 w1 hown1 hg1 hat1)
          go_roundw
          case rel =>
            refine ⟨k + 1, by omega, by go_num, by rw [HS.out, HD2.out]; simpa using hown1, (HB1.out.alloc (by simp; omega) _).grown hg1 (by simp; omega) fun b hb => (HO.out.lt b hb).1⟩
          case measure => simp [intOf]; omega
        · have hd : isDead x = false := by simp [isDead, e2]
          have hd1 : (x.1 == 2) = true := by simp [e1]
          have hd2 : (x.2.1 == 0) = false := by simp [e2]
          clear e1 e2
          have HD2 := Lib.hid hd
          clear hd
          go_wp2
          go_roundw
          case rel => exact ⟨k + 1, by omega, by go_num, by rw [HS.out, HD2.out]; simpa using HO.out.alloc _, HB1.out⟩
          case measure => simp [intOf]; omega
      · have hd : isDead x = false := by simp [isDead, e1]
        have hd1 : (x.1 == 2) = false := by simp [e1]
        clear e1
        have HD2 := Lib.hid hd
        clear hd
        go_wp2
        go_roundw
        case rel => exact ⟨k + 1, by omega, by go_num, by rw [HS.out, HD2.out]; simpa using HO.out.alloc _, HB1.out⟩
        case measure => simp [intOf]; omega
    · obtain rfl : k = l.length := by omega
      rw [List.take_length] at hown
      go_wp2
      go_ret
      exact ⟨_, rfl, hown, hB⟩
set_option maxHeartbeats 800000 in
theorem all_ok (g h : Nat) (l : List Sg) (w : World) (ht : Tab w g h l) :
    Calls Try.prog 8 #[.pointer (some ⟨g, 0, none⟩)] w fun e w' => ∃ v, e = .returned v ∧ w'.ownsRow w.heap.size 30 3 v l.length (sgs l) ∧ Below w.heap.size w w' := by
  have hk := all_ok0 g h l w ht
  have hc := ht.c0
  clear ht
  go_enter Try.func8, Try.ntmps8
  go_wp2_with (go_at_call 20; refine hk.mono ?_; rintro e w' ⟨v, rfl, h1, h2⟩)
  go_ret
  exact ⟨v, rfl, h1, h2⟩
theorem take_snoc_of {α : Type} {l : List α} {k : Nat} {x : α} (h : l[k]? = some x) : l.take (k + 1) = l.take k ++ [x] := by
  obtain ⟨hk, rfl⟩ := List.getElem?_eq_some_iff.1 h
  exact List.take_succ_eq_append_getElem hk
set_option maxHeartbeats 1600000 in
theorem equal_ok (A B : Option Addr) (c d : Nat) (l m : List Sg) (w : World) (hA : ∀ ad, A = some ad → ∃ h, ad = ⟨h, 0, none⟩) (hB : ∀ ad, B = some ad → ∃ h, ad = ⟨h, 0, none⟩)
    (ra : Rd w A (sgs l)) (rb : Rd w B (sgs m)) (hl : l.length ≤ 1000000) :
    Calls Try.prog 24 #[.slice A l.length c, .slice B m.length d] w fun e w' => e = .returned (.bool (decide (l = m))) ∧ ∃ n, w' = w.drewN n := by
  obtain ⟨r, hr⟩ : ∃ r, r = decide (l = m) := ⟨_, rfl⟩
  rw [← hr]
  have HR := Lib.hid hr
  clear hr
  by_cases hlen : l.length = m.length
  · go_enter Try.func24, Try.ntmps24
    go_wp2
    go_loopw [13] (fun i wr => ∃ k nq : Nat, k ≤ l.length ∧ i = .int .i64 k ∧ l.take k = m.take k ∧ wr = w.drewN nq) (fun i _ => l.length - (intOf i).toNat)
    case atStart => exact ⟨0, 0, by omega, rfl, rfl, rfl⟩
    case round =>
      obtain ⟨k, nq, hk, rfl, ht, rfl⟩ := hrel
      by_cases hlt : k < l.length
      · obtain ⟨x, hx⟩ : ∃ x, l[k]? = some x := ⟨_, List.getElem?_eq_getElem hlt⟩
        obtain ⟨y, hy⟩ : ∃ y, m[k]? = some y := ⟨_, List.getElem?_eq_getElem (by omega)⟩
        obtain ⟨ad, rfl, a0⟩ := ra (k * 3) _ ((sgs_get l k 0 x (by decide) hx).trans rfl)
        obtain ⟨_, e1, a1⟩ := ra (k * 3 + 1) _ ((sgs_get l k 1 x (by decide) hx).trans rfl)
        cases e1
        obtain ⟨_, e2, a2⟩ := ra (k * 3 + 2) _ ((sgs_get l k 2 x (by decide) hx).trans rfl)
        cases e2
        obtain ⟨bd, rfl, b0⟩ := rb (k * 3) _ ((sgs_get m k 0 y (by decide) hy).trans rfl)
        obtain ⟨_, e1, b1⟩ := rb (k * 3 + 1) _ ((sgs_get m k 1 y (by decide) hy).trans rfl)
        cases e1
        obtain ⟨_, e2, b2⟩ := rb (k * 3 + 2) _ ((sgs_get m k 2 y (by decide) hy).trans rfl)
        cases e2
        obtain ⟨h1, rfl⟩ := hA _ rfl
        obtain ⟨h2, rfl⟩ := hB _ rfl
        simp only [add_zero_addr, Nat.zero_add] at a0 a1 a2 b0 b1 b2
        have g0 : (0 : Int) ≤ k := by omega
        have g1 : (k : Int) < l.length := by omega
        have g2 : (k : Int) < m.length := by omega
        have HT := Lib.hid ht
        have HX := Lib.hid hx
        have HY := Lib.hid hy
        clear ht hx hy ra rb hA hB
        by_cases hxy : x = y
        · have hq : ∀ W : World, (binOp .neq 30 (.agg #[.int .i64 x.1, .int .i64 x.2.1, .int .u64 x.2.2]) (.agg #[.int .i64 y.1, .int .i64 y.2.1, .int .u64 y.2.2])).run Try.prog W = .ok (.bool false) W := fun W => by rw [sg_neq, decide_eq_true hxy]; rfl
          have HXY := Lib.hid hxy
          clear hxy
          go_wp2
          go_quiet (fail)
          go_wp2
          go_roundw
          case rel => exact ⟨k + 1, _, by omega, by go_num, by rw [take_snoc_of HX.out, take_snoc_of HY.out, HT.out, HXY.out], rfl⟩
          case measure => simp [intOf]; omega
        · have hq : ∀ W : World, (binOp .neq 30 (.agg #[.int .i64 x.1, .int .i64 x.2.1, .int .u64 x.2.2]) (.agg #[.int .i64 y.1, .int .i64 y.2.1, .int .u64 y.2.2])).run Try.prog W = .ok (.bool true) W := fun W => by rw [sg_neq, decide_eq_false hxy]; rfl
          have hne : decide (l = m) = false := decide_eq_false fun e => hxy (by have h1 := HX.out; rw [e, HY.out] at h1; injection h1 with h1; exact h1.symm)
          obtain rfl : r = false := HR.out.trans hne
          clear hxy hne
          go_wp2
          go_quiet (fail)
          go_wp2
          go_ret
          exact ⟨rfl, _, World.drewN_drewN _ _ _⟩
      · obtain rfl : k = l.length := by omega
        have hlm : l = m := by rw [List.take_length, List.take_of_length_le (by omega)] at ht; exact ht
        obtain rfl : r = true := HR.out.trans (decide_eq_true hlm)
        clear ht hlm ra rb hA hB
        go_wp2
        go_ret
        exact ⟨rfl, _, rfl⟩
  · have hne : decide (l = m) = false := decide_eq_false fun e => hlen (by rw [e])
    obtain rfl : r = false := HR.out.trans hne
    clear hne ra rb hA hB
    go_enter Try.func24, Try.ntmps24
    go_wp2
    go_ret
    exact ⟨rfl, 0, rfl⟩
end Go.Proofs.Ytcnjpheeebjjbaa
