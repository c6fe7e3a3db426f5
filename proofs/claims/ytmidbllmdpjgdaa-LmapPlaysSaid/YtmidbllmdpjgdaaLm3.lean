/- The walks of lmap's New, Many, Len, Pages, All, Within. No further condition. -/
import Derived.Test.YtmidbllmdpjgdaaLm2
namespace Go.Proofs.Ytmidbllmdpjgdaa
open Go.RowKit
attribute [local go_sem] go_max2 go_min2 go_max_two go_min_two

theorem lm_new (n np : Nat) (w : World) (h1 : n ≤ 16 * np) (h2 : 16 * np < n + 16) (hn : n ≤ 1000) :
    Lm ((w.alloc (.cells (Array.replicate np (Value.pointer none)) 48)).alloc (.cells #[.int .i64 n, .slice (some ⟨w.heap.size, 0, none⟩) np np, .int .i64 0] 47)) w.heap.size (w.heap.size + 1) w.heap.size n np (fun _ => none) (fun _ => 0) where
  own := by
    have : ∀ n, cnt (fun _ => 0) n = 0 := by
      intro n
      induction n with
      | zero => rfl
      | succ n ih => unfold cnt; rw [ih]; rfl
    rw [this]
    exact Blk.new_ _ _ _ (by simp)
  row := by
    have e : (Array.replicate np (Value.pointer none)) = rowv (fun _ => none) np := by
      unfold rowv
      have : (List.range np).map (fun p => ptrv ((fun _ => none : Nat → Option Nat) p)) = List.replicate np (.pointer none) := by
        rw [List.eq_replicate_iff]
        refine ⟨by simp, fun x hx => ?_⟩
        obtain ⟨_, _, rfl⟩ := List.mem_map.1 hx
        rfl
      rw [this, List.toArray_replicate]
    rw [e]
    exact (Blk.new w _ _).alloc _
  page := fun p b e => by cases e
  nil0 := fun p e j hj => rfl
  inj := fun p q b e => by cases e
  bg := by omega
  bh := Nat.le_refl _
  bp := fun p b e => by cases e
  np1 := h1
  np2 := h2
  lo := fun i => Int.le_refl _
  hi := fun i => by decide
  few := hn
  up := fun p b e => by cases e
set_option maxHeartbeats 1600000 in
theorem lnew_ok (n : Nat) (w : World) (hn : n ≤ 1000) :
    Calls Try.prog 8 #[.int .i64 n] w fun e w' => ∃ np, e = .returned (.pointer (some ⟨w.heap.size + 1, 0, none⟩)) ∧ Lm w' w.heap.size (w.heap.size + 1) w.heap.size n np (fun _ => none) (fun _ => 0) ∧ Below w.heap.size w w' := by
  obtain ⟨i0, hi, hz0, hz1, hz2⟩ := info_parts (show (Try.prog.info? 48).map (fun i => (i.zero, i.size, i.bytes)) = some (some (.pointer none), 1, 8) by kernel_rfl)
  obtain ⟨np, hnp⟩ : ∃ np, np = (n + 15) / 16 := ⟨_, rfl⟩
  have hmk0 := fun W => run_make_zeros (P := Try.prog) 45 48 i0 _ 1 8 Try.underlying45 hi hz0 hz1 hz2 rfl .i64 .i64 np (by omega) (by omega) W
  have hz : ((n : Int) + 16 - 1) / 16 = (np : Int) := by omega
  have hmk := hmk0
  rw [← hz] at hmk
  have e1 : mxI (n : Int) 0 = n := by unfold mxI; rw [if_neg (by omega)]
  have e2 : mnI (n : Int) 1048576 = n := by unfold mnI; rw [if_neg (by omega)]
  have HL := Lib.hid (lm_new n np w (by omega) (by omega) hn)
  go_enter Try.func8, Try.ntmps8
  clear hmk0 hz hnp
  go_wp2
  go_ret
  exact ⟨np, rfl, HL.out, ((Below.refl _ _).alloc (Nat.le_refl _) _).alloc (by simp) _⟩
theorem many_ok (B g h n np : Nat) (pg : Nat → Option Nat) (f : Nat → Int) (w : World) (k : Lm w B g h n np pg f) :
    Calls Try.prog 14 #[.pointer (some ⟨g, 0, none⟩)] w fun e w' => e = .returned (.int .i64 (cnt f n : Int)) ∧ w' = w := by
  obtain ⟨c0, c1, c2⟩ := k.cells
  clear k
  go_enter Try.func14, Try.ntmps14
  go_wp2
  go_ret
  exact ⟨rfl, rfl⟩
theorem len_ok (B g h n np : Nat) (pg : Nat → Option Nat) (f : Nat → Int) (w : World) (k : Lm w B g h n np pg f) :
    Calls Try.prog 18 #[.pointer (some ⟨g, 0, none⟩)] w fun e w' => e = .returned (.int .i64 (n : Int)) ∧ w' = w := by
  obtain ⟨c0, c1, c2⟩ := k.cells
  clear k
  go_enter Try.func18, Try.ntmps18
  go_wp2
  go_ret
  exact ⟨rfl, rfl⟩
theorem ownsRow_base {W : World} {b1 b2 : Nat} {e : TypeId} {size n : Nat} {v : Value} {xs : List Value} (k : W.ownsRow b1 e size v n xs) (h : b2 ≤ b1) : W.ownsRow b2 e size v n xs := by
  refine ⟨k.1, ?_⟩
  rcases k.2 with r | ⟨g, cap, cur, r1, r2, r3⟩
  · exact .inl r
  · exact .inr ⟨g, cap, cur, r1, Nat.le_trans h r2, r3⟩
/-- Where all blocks lie. -/
def allv (n : Nat) (f : Nat → Int) : List Int := (List.range n).map fun i => f i - 1
theorem allv_snoc (k : Nat) (f : Nat → Int) : allv (k + 1) f = allv k f ++ [f k - 1] := by simp [allv, List.range_succ]
theorem allv_len (k : Nat) (f : Nat → Int) : (allv k f).length = k := by simp [allv]
theorem allv_get {n : Nat} (f : Nat → Int) {i : Nat} (h : i < n) : (allv n f)[i]? = some (f i - 1) := by simp [allv, h]
set_option maxHeartbeats 1600000 in
theorem all_ok (B g h n np : Nat) (pg : Nat → Option Nat) (f : Nat → Int) (w : World) (k : Lm w B g h n np pg f) :
    Calls Try.prog 13 #[.pointer (some ⟨g, 0, none⟩)] w fun e w' => ∃ v, e = .returned v ∧ w'.ownsRow w.heap.size 3 1 v (allv n f).length ((allv n f).map (.int .i64)) ∧ Below w.heap.size w w' := by
  obtain ⟨i0, hi0, hz0, hz1, hz2⟩ := info_parts (show (Try.prog.info? 3).map (fun i => (i.zero, i.size, i.bytes)) = some (some (.int .i64 0), 1, 8) by kernel_rfl)
  obtain ⟨c0, -, -⟩ := k.cells
  have hfew := k.few
  have HK := Lib.hid k
  clear k
  go_enter Try.func13, Try.ntmps13
  go_wp2
  go_loopw [3, 4, 9] (fun v _ i wr => ∃ j : Nat, j ≤ n ∧ i = .int .i64 j ∧ wr.ownsRow w.heap.size 3 1 v j ((allv j f).map (.int .i64)) ∧ Below w.heap.size w wr) (fun _ _ i _ => n - (intOf i).toNat)
  case atStart => exact ⟨0, by omega, rfl, World.ownsRow_nil _ _ _ _, Below.refl _ _⟩
  case round =>
    obtain ⟨j, hj, rfl, hown, hB⟩ := hrel
    clear c0
    have hbs := hB.size
    have HB := Lib.hid hB
    have HO := Lib.hid hown
    by_cases hlt : j < n
    · have HG := Lib.hid (get_ok B g h n np pg f j wr (HK.out.later hB))
      rw [gv_in hlt] at HG
      clear hB hown
      go_wp2_with (first
        | (go_at_call 10; refine HG.out.mono ?_; rintro e w' ⟨rfl, rfl⟩)
        | (at_builtin; refine wpList_append_any _ rfl _ _ 31 rfl w.heap.size 3 i0 (.int .i64 0) 1 8 Try.underlying31 hi0 hz0 hz1 hz2 rfl (by decide) _ j ((allv j f).map (.int .i64)) rfl (HO.out.alloc _) (some ⟨_, 0, none⟩) 1 1 [.int .i64 (f j - 1)] rfl rfl (Rd.one _ _ _ rfl) (by intro u hu; simp at hu; subst hu; rfl) (by unfold maxLen; omega) (by omega) (by simp; omega) ?_; intro v2 w2 hown2 hg2 hat2; have HO2 := Lib.hid hown2; have HG2 := Lib.hid hg2; clear hown2 hg2 hat2))
      go_roundw
      case rel => exact ⟨j + 1, by omega, by go_num, by rw [allv_snoc, List.map_append]; exact HO2.out, (HB.out.alloc hbs _).grown HG2.out (by simp; omega) fun b hb => (HO.out.lt b hb).1⟩
      case measure => simp [intOf]; omega
    · obtain rfl : j = n := by omega
      go_wp2
      go_ret
      exact ⟨_, rfl, by rw [allv_len]; exact hown, hB⟩
/-- Which blocks lie between. -/
def wth (a b : Int) (f : Nat → Int) : Nat → List Int
  | 0 => []
  | k + 1 => wth a b f k ++ (if 0 ≤ f k - 1 ∧ a ≤ f k - 1 ∧ f k - 1 < b then [(k : Int)] else [])
theorem wth_len (a b : Int) (f : Nat → Int) : ∀ n, (wth a b f n).length ≤ n := by
  intro n
  induction n with
  | zero => exact Nat.le_refl _
  | succ n ih =>
    unfold wth
    rw [List.length_append]
    split <;> simp <;> omega
set_option maxHeartbeats 3200000 in
theorem within_ok (B g h n np : Nat) (pg : Nat → Option Nat) (f : Nat → Int) (a b : Int) (w : World) (k : Lm w B g h n np pg f) :
    Calls Try.prog 12 #[.pointer (some ⟨g, 0, none⟩), .int .i64 a, .int .i64 b] w fun e w' => ∃ v, e = .returned v ∧ w'.ownsRow w.heap.size 3 1 v (wth a b f n).length ((wth a b f n).map (.int .i64)) ∧ Below w.heap.size w w' := by
  obtain ⟨i0, hi0, hz0, hz1, hz2⟩ := info_parts (show (Try.prog.info? 3).map (fun i => (i.zero, i.size, i.bytes)) = some (some (.int .i64 0), 1, 8) by kernel_rfl)
  have hfew := k.few
  have HAL := Lib.hid (all_ok B g h n np pg f w k)
  clear k
  go_enter Try.func12, Try.ntmps12
  go_wp2_with (go_at_call 13; refine HAL.out.mono ?_; rintro e w1 ⟨v, rfl, hown, hb⟩; obtain ⟨A, c, rfl, -, hrd⟩ := own_form hown; have HB1 := Lib.hid hb; have HR1 := Lib.hid hrd; rw [allv_len]; clear hb hown hrd)
  go_loopw [7, 8, 9, 13] (fun v _ _ i wr => ∃ j : Nat, j ≤ n ∧ i = .int .i64 j ∧ wr.ownsRow w1.heap.size 3 1 v (wth a b f j).length ((wth a b f j).map (.int .i64)) ∧ Below w1.heap.size w1 wr) (fun _ _ _ i _ => n - (intOf i).toNat)
  case atStart => exact ⟨0, by omega, rfl, World.ownsRow_nil _ _ _ _, Below.refl _ _⟩
  case round =>
    obtain ⟨j, hj, rfl, hown, hB⟩ := hrel
    have hbs := hB.size
    have HB := Lib.hid hB
    have HO := Lib.hid hown
    by_cases hlt : j < n
    · obtain ⟨x, rfl, d0⟩ := (HR1.out.later hB) j (.int .i64 (f j - 1)) (by rw [List.getElem?_map, allv_get f hlt]; rfl)
      have g1 : (j : Int) < n := by omega
      have hwl := wth_len a b f j
      have HW : Hid (wth a b f (j + 1) = wth a b f j ++ (if 0 ≤ f j - 1 ∧ a ≤ f j - 1 ∧ f j - 1 < b then [(j : Int)] else [])) := Lib.hid rfl
      clear hB hown
      generalize f j - 1 = p at d0 HW
      by_cases h1 : 0 ≤ p
      · by_cases h2 : a ≤ p
        · by_cases h3 : p < b
          · rw [if_pos ⟨h1, h2, h3⟩] at HW
            go_wp2_with (at_builtin; refine wpList_append_any _ rfl _ _ 31 rfl w1.heap.size 3 i0 (.int .i64 0) 1 8 Try.underlying31 hi0 hz0 hz1 hz2 rfl (by decide) _ (wth a b f j).length ((wth a b f j).map (.int .i64)) rfl (HO.out.alloc _) (some ⟨_, 0, none⟩) 1 1 [.int .i64 (j : Int)] rfl rfl (Rd.one _ _ _ rfl) (by intro u hu; simp at hu; subst hu; rfl) (by unfold maxLen; omega) (by omega) (by simp; omega) ?_; intro v2 w2 hown2 hg2 hat2; have HO2 := Lib.hid hown2; have HG2 := Lib.hid hg2; clear hown2 hg2 hat2)
            go_roundw
            case rel => exact ⟨j + 1, by omega, by go_num, by rw [HW.out, List.length_append, List.map_append]; exact HO2.out, (HB.out.alloc hbs _).grown HG2.out (by simp; omega) fun b hb => (HO.out.lt b hb).1⟩
            case measure => simp [intOf]; omega
          · rw [if_neg (by omega), List.append_nil] at HW
            have h3' : b ≤ p := by omega
            go_wp2
            go_roundw
            case rel => exact ⟨j + 1, by omega, by go_num, by rw [HW.out]; exact HO.out, HB.out⟩
            case measure => simp [intOf]; omega
        · rw [if_neg (by omega), List.append_nil] at HW
          have h2' : p < a := by omega
          go_wp2
          go_roundw
          case rel => exact ⟨j + 1, by omega, by go_num, by rw [HW.out]; exact HO.out, HB.out⟩
          case measure => simp [intOf]; omega
      · rw [if_neg (by omega), List.append_nil] at HW
        have h1' : p < 0 := by omega
        go_wp2
        go_roundw
        case rel => exact ⟨j + 1, by omega, by go_num, by rw [HW.out]; exact HO.out, HB.out⟩
        case measure => simp [intOf]; omega
    · obtain rfl : j = n := by omega
      go_wp2
      go_ret
      exact ⟨_, rfl, ownsRow_base HO.out HB1.out.size, HB1.out.trans (hB.mono HB1.out.size)⟩
/-- How many pages are there. -/
def pgs (pg : Nat → Option Nat) : Nat → Nat
  | 0 => 0
  | k + 1 => pgs pg k + (if (pg k).isSome then 1 else 0)
theorem pgs_le (pg : Nat → Option Nat) : ∀ n, pgs pg n ≤ n := by
  intro n
  induction n with
  | zero => exact Nat.le_refl _
  | succ n ih => unfold pgs; split <;> omega
set_option maxHeartbeats 1600000 in
theorem pages_ok (B g h n np : Nat) (pg : Nat → Option Nat) (f : Nat → Int) (w : World) (k : Lm w B g h n np pg f) :
    Calls Try.prog 16 #[.pointer (some ⟨g, 0, none⟩)] w fun e w' => e = .returned (.int .i64 (pgs pg np : Int)) ∧ w' = w := by
  obtain ⟨c0, c1, c2⟩ := k.cells
  have hfew := k.few
  have hnp := k.np2
  have HK := Lib.hid k
  clear k
  go_enter Try.func16, Try.ntmps16
  go_wp2
  go_loopw [3, 5, 11] (fun v _ i wr => ∃ j : Nat, j ≤ np ∧ i = .int .i64 j ∧ v = .int .i64 (pgs pg j : Int) ∧ wr = w) (fun _ _ i _ => np - (intOf i).toNat)
  case atStart => exact ⟨0, by omega, rfl, rfl, rfl⟩
  case round =>
    obtain ⟨j, hj, rfl, rfl, rfl⟩ := hrel
    by_cases hlt : j < np
    · have d0 := HK.out.ptr hlt
      have g1 : (j : Int) < np := by omega
      have hpl := pgs_le pg j
      have HP : Hid (pgs pg (j + 1) = pgs pg j + (if (pg j).isSome then 1 else 0)) := Lib.hid rfl
      rcases hp : pg j with _ | b
      · rw [hp, ptrv_none] at d0
        rw [hp] at HP
        clear hp
        go_wp2
        go_roundw
        case rel => exact ⟨j + 1, by omega, by go_num, by rw [HP.out]; rfl, trivial⟩
        case measure => simp [intOf]; omega
      · rw [hp, ptrv_some] at d0
        rw [hp] at HP
        clear hp
        go_wp2
        go_roundw
        case rel => exact ⟨j + 1, by omega, by go_num, by rw [HP.out]; go_num, trivial⟩
        case measure => simp [intOf]; omega
    · obtain rfl : j = np := by omega
      go_wp2
      go_ret
      exact ⟨rfl, rfl⟩
end Go.Proofs.Ytmidbllmdpjgdaa
