/- The walks of Clear, Many, Dead, All. No further condition. -/
import Derived.Test.YtlkfinkgekkcfaaTb2
namespace Go.Proofs.Ytlkfinkgekkcfaa
open Go.RowKit

/-! ### plain -/
def cnt (s : Int) (l : List Sg) : Nat := (l.filter fun x => x.1 == s).length
theorem cnt_le (s : Int) (l : List Sg) : cnt s l ≤ l.length := List.length_filter_le _ _
theorem cnt_snoc (s : Int) (l : List Sg) (k : Nat) (x : Sg) (h : l[k]? = some x) : cnt s (l.take (k + 1)) = cnt s (l.take k) + if x.1 == s then 1 else 0 := by
  obtain ⟨hk, rfl⟩ := List.getElem?_eq_some_iff.1 h
  rw [List.take_succ_eq_append_getElem hk]
  unfold cnt
  rw [List.filter_append, List.length_append]
  by_cases e : l[k].1 == s <;> simp [e]
def isDead (x : Sg) : Bool := x.1 == 2 && x.2.1 == 0
/-- The dead ones' numbers, from a number on. -/
def deads : List Sg → Nat → List Int
  | [], _ => []
  | x :: l, i => if isDead x then (i : Int) :: deads l (i + 1) else deads l (i + 1)
theorem deads_len (l : List Sg) : ∀ i, (deads l i).length ≤ l.length := by
  induction l with
  | nil => intro i; simp [deads]
  | cons x l ih => intro i; have := ih (i + 1); unfold deads; split <;> simp <;> omega
theorem deads_append (l m : List Sg) : ∀ i, deads (l ++ m) i = deads l i ++ deads m (i + l.length) := by
  induction l with
  | nil => intro i; simp [deads]
  | cons x l ih =>
    intro i
    simp only [List.cons_append, deads, ih, List.length_cons, show i + (l.length + 1) = i + 1 + l.length by omega]
    split <;> simp
theorem deads_snoc (l : List Sg) (k : Nat) (x : Sg) (h : l[k]? = some x) : deads (l.take (k + 1)) 0 = deads (l.take k) 0 ++ if isDead x then [(k : Int)] else [] := by
  obtain ⟨hk, rfl⟩ := List.getElem?_eq_some_iff.1 h
  rw [List.take_succ_eq_append_getElem hk, deads_append]
  have e : 0 + (l.take k).length = k := by simp; omega
  rw [e]
  simp [deads]

/-! ### the walks -/
theorem sgs_one (l : List Sg) : ∀ u ∈ sgs l, u.oneCell' = true := by
  intro u hu
  obtain ⟨s, _, hs⟩ := List.mem_flatMap.1 hu
  simp [sgv] at hs
  rcases hs with rfl | rfl | rfl <;> rfl
theorem all_ok0 (g h : Nat) (l : List Sg) (w : World) (ht : Tab w g h l) :
    Calls Try.prog 23 #[.slice (some ⟨h, 0, none⟩) l.length l.length] w fun e w' => ∃ v, e = .returned v ∧ w'.ownsRow w.heap.size 25 3 v l.length (sgs l) ∧ Below w.heap.size w w' := by
  obtain ⟨i0, hi0, hz0, hz1, hz2⟩ := info_parts (show (Try.prog.info? 25).map (fun i => (i.zero, i.size, i.bytes)) = some (some (.agg #[.int .i64 0, .int .i64 0, .int .u64 0]), 3, 24) by kernel_rfl)
  have hf := ht.few
  have hne := fun (W : World) => Lib.run_eql_slice_nil (P := Try.prog) W 32 25 (some ⟨h, 0, none⟩) l.length l.length 0 0 Try.underlying32
  have hA := (Below.refl w.heap.size w).alloc (Nat.le_refl _) (.cells #[] 25)
  have ht1 := ht.later hA
  have hr : Rd (w.alloc (.cells #[] 25)) (some ⟨h, 0, none⟩) (sgs l) := by
    have := Rd.of_blk ht1.row 0 (l.length * 3)
    rw [List.drop_zero, List.take_of_length_le (by simp [sgs_len])] at this
    exact this
  have hn := Blk.new w 25 #[]
  have HR := Lib.hid hr
  have HN := Lib.hid hn
  have HA := Lib.hid hA
  clear hr ht ht1 hA hn
  go_enter Try.func23, Try.ntmps23
  go_wp2_with (at_builtin; refine wpList_append_any _ rfl _ _ 32 rfl w.heap.size 25 i0 _ 3 24 Try.underlying32 hi0 hz0 hz1 hz2 rfl (by decide) (.slice (some ⟨w.heap.size, 0, none⟩) 0 0) 0 [] rfl (ownsRow_empty _ _ _ _ _ 0 _ (Nat.le_refl _) HN.out (by unfold maxLen; omega) rfl) (some ⟨h, 0, none⟩) l.length l.length (sgs l) rfl (sgs_len l) HR.out (sgs_one l) (by unfold maxLen; omega) (by omega) (by simp) ?_; intro v1 w1 hown1 hg1 hat1)
  go_ret
  refine ⟨v1, rfl, by simpa using hown1, HA.out.trans (below_of_grown hg1 (by simp) fun b hb => ?_)⟩
  injection hb with hb
  exact Nat.le_of_eq hb
set_option maxHeartbeats 800000 in
theorem all_ok (g h : Nat) (l : List Sg) (w : World) (ht : Tab w g h l) :
    Calls Try.prog 20 #[.pointer (some ⟨g, 0, none⟩)] w fun e w' => ∃ v, e = .returned v ∧ w'.ownsRow w.heap.size 25 3 v l.length (sgs l) ∧ Below w.heap.size w w' := by
  have hk := all_ok0 g h l w ht
  have hc := ht.c0
  clear ht
  go_enter Try.func20, Try.ntmps20
  go_wp2_with (go_at_call 23; refine hk.mono ?_; rintro e w' ⟨v, rfl, h1, h2⟩)
  go_ret
  exact ⟨v, rfl, h1, h2⟩
theorem take_snoc_of {α : Type} {l : List α} {k : Nat} {x : α} (h : l[k]? = some x) : l.take (k + 1) = l.take k ++ [x] := by
  obtain ⟨hk, rfl⟩ := List.getElem?_eq_some_iff.1 h
  exact List.take_succ_eq_append_getElem hk
end Go.Proofs.Ytlkfinkgekkcfaa
