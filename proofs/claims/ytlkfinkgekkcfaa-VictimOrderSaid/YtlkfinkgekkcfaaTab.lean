/- Tables: the words, and the walks of New, Len, has, At. No further condition. -/
import Derived.Test.YtlkfinkgekkcfaaKit
namespace Go.Proofs.Ytlkfinkgekkcfaa
open Go.RowKit

/-- A segment: its state, how much in it lives, the number of its last stripe. -/
abbrev Sg := Int × Int × Int
def sgv (s : Sg) : List Value := [.int .i64 s.1, .int .i64 s.2.1, .int .u64 s.2.2]
def sgs (l : List Sg) : List Value := l.flatMap sgv
theorem sgs_len (l : List Sg) : (sgs l).length = l.length * 3 := by
  induction l with
  | nil => rfl
  | cons a l ih => simp only [sgs, List.flatMap_cons, List.length_append] at ih ⊢; rw [ih]; simp [sgv]; omega
theorem sgs_cons (a : Sg) (l : List Sg) : sgs (a :: l) = sgv a ++ sgs l := rfl
theorem sgs_get (l : List Sg) : ∀ (i k : Nat) (s : Sg), k < 3 → l[i]? = some s → (sgs l)[i * 3 + k]? = (sgv s)[k]? := by
  induction l with
  | nil => intro i k s _ h; simp at h
  | cons a l ih =>
    intro i k s hk h
    rw [sgs_cons]
    cases i with
    | zero =>
      simp at h
      subst h
      rw [List.getElem?_append_left (by simp [sgv]; omega)]
      simp
    | succ i =>
      rw [List.getElem?_append_right (by simp [sgv]; omega)]
      have e : (i + 1) * 3 + k - (sgv a).length = i * 3 + k := by simp [sgv]; omega
      rw [e]
      exact ih i k s hk (by simpa using h)
theorem sgs_set (l : List Sg) : ∀ (i k : Nat) (s : Sg) (v : Value) (s' : Sg), k < 3 → l[i]? = some s → (sgv s).set k v = sgv s' → (sgs l).set (i * 3 + k) v = sgs (l.set i s') := by
  induction l with
  | nil => intro i k s _ _ _ h; simp at h
  | cons a l ih =>
    intro i k s v s' hk h hs
    cases i with
    | zero =>
      simp at h
      subst h
      rw [sgs_cons, List.set_append_left _ _ (by simp [sgv]; omega)]
      simp only [Nat.zero_mul, Nat.zero_add, List.set_cons_zero, sgs_cons, hs]
    | succ i =>
      rw [sgs_cons, List.set_append_right _ _ (by simp [sgv]; omega)]
      have e : (i + 1) * 3 + k - (sgv a).length = i * 3 + k := by simp [sgv]; omega
      rw [e, ih i k s v s' hk (by simpa using h) hs]
      simp only [List.set_cons_succ, sgs_cons]

/-- A table's two blocks: its own, and its segments'. -/
structure Tab (w : World) (g h : Nat) (l : List Sg) : Prop where
  own : Blk w g 50 #[.slice (some ⟨h, 0, none⟩) l.length l.length]
  row : Blk w h 25 (sgs l).toArray
  few : l.length ≤ 65536
section
variable {w w' : World} {g h : Nat} {l : List Sg} {S : Nat → Prop}
theorem Tab.fr (k : Tab w g h l) (f : Fr S w w') (hg : ¬ S g) (hh : ¬ S h) : Tab w' g h l := ⟨k.own.fr f hg, k.row.fr f hh, k.few⟩
theorem Tab.later (k : Tab w g h l) (hb : Below w.heap.size w w') : Tab w' g h l := ⟨k.own.below hb k.own.lt, k.row.below hb k.row.lt, k.few⟩
theorem Tab.ne (k : Tab w g h l) : g ≠ h := k.own.ne_ k.row (by decide)
theorem Tab.c0 (k : Tab w g h l) : w.cell? ⟨g, 0, none⟩ = some (.slice (some ⟨h, 0, none⟩) l.length l.length) := (k.own.cell 0).trans rfl
theorem Tab.at_ (k : Tab w g h l) {i : Nat} {s : Sg} (hi : l[i]? = some s) : w.cell? ⟨h, i * 3, none⟩ = some (.int .i64 s.1) ∧ w.cell? ⟨h, i * 3 + 1, none⟩ = some (.int .i64 s.2.1) ∧ w.cell? ⟨h, i * 3 + 2, none⟩ = some (.int .u64 s.2.2) :=
  ⟨(k.row.cell _).trans (by simpa [sgv] using sgs_get l i 0 s (by decide) hi), (k.row.cell _).trans (by simpa [sgv] using sgs_get l i 1 s (by decide) hi), (k.row.cell _).trans (by simpa [sgv] using sgs_get l i 2 s (by decide) hi)⟩
end

set_option maxHeartbeats 800000 in
theorem has_yes (g : Nat) (A : Option Addr) (n c i : Nat) (w : World) (hb : Blk w g 50 #[.slice A n c]) (hi : i < n) :
    Calls Try.prog 19 #[.pointer (some ⟨g, 0, none⟩), .int .i64 i] w fun e w' => e = .returned (.bool true) ∧ w = w' := by
  have hc : w.cell? ⟨g, 0, none⟩ = some (.slice A n c) := (hb.cell 0).trans rfl
  clear hb
  go_enter Try.func19, Try.ntmps19
  go_wp2
  go_ret
  exact ⟨rfl, rfl⟩
set_option maxHeartbeats 800000 in
theorem has_no (g : Nat) (A : Option Addr) (n c : Nat) (i : Int) (w : World) (hb : Blk w g 50 #[.slice A n c]) (hi : i < 0 ∨ (n : Int) ≤ i) :
    Calls Try.prog 19 #[.pointer (some ⟨g, 0, none⟩), .int .i64 i] w fun e w' => e = .returned (.bool false) ∧ w = w' := by
  have hc : w.cell? ⟨g, 0, none⟩ = some (.slice A n c) := (hb.cell 0).trans rfl
  clear hb
  rcases hi with hi | hi
  · have hd : decide (0 ≤ i) = false := by simp; omega
    go_enter Try.func19, Try.ntmps19
    go_wp2
    go_ret
    exact ⟨rfl, rfl⟩
  · have hd : decide (0 ≤ i) = true := by simp; omega
    have hd : decide (i < (n : Int)) = false := by simp; omega
    go_enter Try.func19, Try.ntmps19
    go_wp2
    go_ret
    exact ⟨rfl, rfl⟩

set_option maxHeartbeats 800000 in
theorem at_yes (g h i : Nat) (l : List Sg) (s : Sg) (w : World) (ht : Tab w g h l) (hi : l[i]? = some s) :
    Calls Try.prog 14 #[.pointer (some ⟨g, 0, none⟩), .int .i64 i] w fun e w' => e = .returned (.agg #[.int .i64 s.1, .int .i64 s.2.1, .int .u64 s.2.2]) ∧ Below w.heap.size w w' := by
  have hlt : i < l.length := (List.getElem?_eq_some_iff.1 hi).1
  have ht1 := ht.later ((Below.refl _ _).alloc (Nat.le_refl _) (.cells #[.int .i64 0, .int .i64 0, .int .u64 0] 25))
  have hk := has_yes g _ _ _ i _ ht1.own hlt
  have hc := ht1.c0
  obtain ⟨c1, c2, c3⟩ := ht1.at_ hi
  clear ht ht1
  go_enter Try.func14, Try.ntmps14
  go_wp2_with (go_at_call 19; refine hk.mono ?_; rintro e w' ⟨rfl, rfl⟩)
  exact bodyPost_ret (v := .agg #[.int .i64 s.1, .int .i64 s.2.1, .int .u64 s.2.2]) (by simp [results, Try.results14, go_sem]) rfl ⟨rfl, (Below.refl _ _).alloc (Nat.le_refl _) _⟩

set_option maxHeartbeats 800000 in
theorem at_no (g h : Nat) (i : Int) (l : List Sg) (w : World) (ht : Tab w g h l) (hi : i < 0 ∨ (l.length : Int) ≤ i) :
    Calls Try.prog 14 #[.pointer (some ⟨g, 0, none⟩), .int .i64 i] w fun e w' => e = .returned (.agg #[.int .i64 0, .int .i64 0, .int .u64 0]) ∧ Below w.heap.size w w' := by
  have ht1 := ht.later ((Below.refl _ _).alloc (Nat.le_refl _) (.cells #[.int .i64 0, .int .i64 0, .int .u64 0] 25))
  have hk := has_no g _ _ _ i _ ht1.own hi
  clear ht ht1
  go_enter Try.func14, Try.ntmps14
  go_wp2_with (go_at_call 19; refine hk.mono ?_; rintro e w' ⟨rfl, rfl⟩)
  exact bodyPost_ret (v := .agg #[.int .i64 0, .int .i64 0, .int .u64 0]) (by simp [results, Try.results14, go_sem]) rfl ⟨rfl, (Below.refl _ _).alloc (Nat.le_refl _) _⟩
/-- So many, all free. -/
theorem tab_new (n : Nat) (w : World) (hn : n ≤ 65536) : Tab ((w.alloc (.cells (List.replicate n (Value.agg #[.int .i64 0, .int .i64 0, .int .u64 0]).cells.toList).flatten.toArray 25)).alloc (.cells #[.slice (some ⟨w.heap.size, 0, none⟩) n n] 50)) (w.heap.size + 1) w.heap.size (List.replicate n (0, 0, 0)) := by
  refine ⟨?_, ?_, by simpa using hn⟩
  · rw [List.length_replicate]
    exact Blk.new_ _ _ _ (by simp)
  · have e : (List.replicate n (Value.agg #[.int .i64 0, .int .i64 0, .int .u64 0]).cells.toList).flatten = sgs (List.replicate n (0, 0, 0)) := by
      unfold sgs
      rw [List.flatMap_def, List.map_replicate]
      rfl
    rw [e]
    exact (Blk.new w _ _).alloc _
set_option maxHeartbeats 800000 in
theorem new_ok (n : Nat) (w : World) (hn : n ≤ 65536) :
    Calls Try.prog 11 #[.int .i64 n] w fun e w' => e = .returned (.pointer (some ⟨w.heap.size + 1, 0, none⟩)) ∧ Tab w' (w.heap.size + 1) w.heap.size (List.replicate n (0, 0, 0)) ∧ Below w.heap.size w w' ∧ w'.heap.size = w.heap.size + 2 := by
  obtain ⟨i0, hi, hz0, hz1, hz2⟩ := info_parts (show (Try.prog.info? 25).map (fun i => (i.zero, i.size, i.bytes)) = some (some (.agg #[.int .i64 0, .int .i64 0, .int .u64 0]), 3, 24) by kernel_rfl)
  have hmk := fun W => run_make_zeros (P := Try.prog) 32 25 i0 _ 3 24 Try.underlying32 hi hz0 hz1 hz2 rfl .i64 .i64 n (by omega) (by omega) W
  have hmx : (if (n : Int) < 0 then (0 : Int) else n) = n := by rw [if_neg (by omega)]
  go_enter Try.func11, Try.ntmps11
  go_wp2
  go_ret
  exact ⟨rfl, tab_new n w hn, ((Below.refl _ _).alloc (Nat.le_refl _) _).alloc (by simp) _, by simp⟩
end Go.Proofs.Ytlkfinkgekkcfaa
