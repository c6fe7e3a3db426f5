/- The walks of what changes a table: Open, Seal, Live, Set, Clear. No further condition. -/
import Derived.Test.YtlkfinkgekkcfaaTab
namespace Go.Proofs.Ytlkfinkgekkcfaa
open Go.RowKit

/-- Behind a call that changes a table: it holds these now; nothing else has turned. -/
structure TabTo (w w' : World) (g h : Nat) (l : List Sg) : Prop where
  tab : Tab w' g h l
  fr : Fr (· = h) w w'
theorem TabTo.refl {w : World} {g h : Nat} {l : List Sg} (k : Tab w g h l) : TabTo w w g h l := ⟨k, Fr.refl _ _⟩
theorem TabTo.trans {w w1 w2 : World} {g h : Nat} {l l' : List Sg} (k : TabTo w w1 g h l) (k' : TabTo w1 w2 g h l') : TabTo w w2 g h l' := ⟨k'.tab, k.fr.trans' k'.fr⟩
theorem TabTo.drew {w w1 : World} {g h : Nat} {l : List Sg} (k : TabTo w w1 g h l) : TabTo w w1.drew g h l := ⟨⟨k.tab.own, k.tab.row, k.tab.few⟩, k.fr.drew⟩
theorem tab_set {w : World} {g h : Nat} {l : List Sg} {i : Nat} {s s' : Sg} (k : Nat) (v : Value) (ht : Tab w g h l) (hi : l[i]? = some s) (hk : k < 3) (hs : (sgv s).set k v = sgv s') : TabTo w (w.setCell ⟨h, i * 3 + k, none⟩ v) g h (l.set i s') := by
  refine ⟨⟨?_, ?_, by simpa using ht.few⟩, (Fr.refl (· = h) w).setCell (p := ⟨h, i * 3 + k, none⟩) (.inl rfl) _⟩
  · rw [List.length_set]
    exact ht.own.far (show g ≠ h from ht.ne) _
  · have := ht.row.set_ (i * 3 + k) v
    rw [List.setIfInBounds_toArray, sgs_set l i k s v s' hk hi hs] at this
    exact this

set_option maxHeartbeats 1600000 in
theorem seal_yes (g h i : Nat) (n : Int) (l : List Sg) (s : Sg) (w : World) (ht : Tab w g h l) (hi : l[i]? = some s) :
    Calls Try.prog 16 #[.pointer (some ⟨g, 0, none⟩), .int .i64 i, .int .u64 n] w fun e w' => e = .returned (.tuple #[]) ∧ TabTo w w' g h (l.set i (2, s.2.1, n)) := by
  have hlt : i < l.length := (List.getElem?_eq_some_iff.1 hi).1
  have hk := has_yes g _ _ _ i _ ht.own hlt
  have hc := ht.c0
  obtain ⟨c1, c2, c3⟩ := ht.at_ hi
  have f1 := ht.row.frozen (i * 3)
  have f3 := ht.row.frozen (i * 3 + 2)
  go_enter Try.func16, Try.ntmps16
  go_wp2_with (go_at_call 19; refine hk.mono ?_; rintro e w' ⟨rfl, rfl⟩)
  have k1 := tab_set (s' := (2, s.2.1, s.2.2)) 0 (.int .i64 2) ht hi (by decide) rfl
  have k2 := tab_set (s := (2, s.2.1, s.2.2)) (s' := (2, s.2.1, n)) 2 (.int .u64 n) k1.tab (by rw [List.getElem?_set_self hlt]) (by decide) rfl
  rw [List.set_set] at k2
  have HE := Lib.hid (k1.trans k2).drew
  clear ht k1 k2 hk
  go_region
  all_goals (go_end0; exact ⟨rfl, HE.out⟩)
set_option maxHeartbeats 1600000 in
theorem set_yes (g h i : Nat) (l : List Sg) (s s' : Sg) (w : World) (ht : Tab w g h l) (hi : l[i]? = some s) :
    Calls Try.prog 12 #[.pointer (some ⟨g, 0, none⟩), .int .i64 i, .agg #[.int .i64 s'.1, .int .i64 s'.2.1, .int .u64 s'.2.2]] w fun e w' => e = .returned (.tuple #[]) ∧ TabTo w w' g h (l.set i s') := by
  have hlt : i < l.length := (List.getElem?_eq_some_iff.1 hi).1
  have hA := (Below.refl w.heap.size w).alloc (Nat.le_refl _) (.cells #[.int .i64 s'.1, .int .i64 s'.2.1, .int .u64 s'.2.2] 25)
  have ht1 := ht.later hA
  have hb1 := Blk.new w 25 #[.int .i64 s'.1, .int .i64 s'.2.1, .int .u64 s'.2.2]
  obtain ⟨w1, hw1⟩ : ∃ w1, w1 = w.alloc (.cells #[.int .i64 s'.1, .int .i64 s'.2.1, .int .u64 s'.2.2] 25) := ⟨_, rfl⟩
  rw [← hw1] at ht1 hb1
  have hk := has_yes g _ _ _ i _ ht1.own hlt
  have hc := ht1.c0
  obtain ⟨c1, c2, c3⟩ := ht1.at_ hi
  have f1 := ht1.row.frozen (i * 3)
  have f3 := ht1.row.frozen (i * 3 + 2)
  rw [hw1] at hk
  go_enter Try.func12, Try.ntmps12
  go_wp2_with (go_at_call 19; refine hk.mono ?_; rintro e w' ⟨rfl, rfl⟩)
  rw [← hw1]
  have k1 := tab_set (s' := (s'.1, s.2.1, s.2.2)) 0 (.int .i64 s'.1) ht1 hi (by decide) rfl
  have k2 := tab_set (s := (s'.1, s.2.1, s.2.2)) (s' := (s'.1, s'.2.1, s.2.2)) 1 (.int .i64 s'.2.1) k1.tab (by rw [List.getElem?_set_self hlt]) (by decide) rfl
  have k3 := tab_set (s := (s'.1, s'.2.1, s.2.2)) (s' := s') 2 (.int .u64 s'.2.2) k2.tab (by rw [List.set_set, List.getElem?_set_self hlt]) (by decide) rfl
  rw [List.set_set, List.set_set] at k3
  have k := ((k1.trans k2).trans k3).drew
  have f2 := ht1.row.frozen (i * 3 + 1)
  have b0 : w1.cell? ⟨w.heap.size, 0, none⟩ = some (.int .i64 s'.1) := (hb1.cell 0).trans rfl
  have b1 : w1.cell? ⟨w.heap.size, 1, none⟩ = some (.int .i64 s'.2.1) := (hb1.cell 1).trans rfl
  have b2 : w1.cell? ⟨w.heap.size, 2, none⟩ = some (.int .u64 s'.2.2) := (hb1.cell 2).trans rfl
  have hne : h ≠ w.heap.size := by have := ht.row.lt; omega
  have HE := Lib.hid (show TabTo w _ g h (l.set i s') from ⟨k.tab, (Fr.of_below hA (fun b hb hb2 => absurd hb (by omega))).trans' (hw1 ▸ k.fr)⟩)
  have HW := Lib.hid hw1
  clear ht ht1 k1 k2 k3 k hk hA hb1 hw1
  go_region
  all_goals (go_end0; exact ⟨rfl, HE.out⟩)
set_option maxHeartbeats 1600000 in
theorem set_no (g h : Nat) (i : Int) (l : List Sg) (s' : Sg) (w : World) (ht : Tab w g h l) (hi : i < 0 ∨ (l.length : Int) ≤ i) :
    Calls Try.prog 12 #[.pointer (some ⟨g, 0, none⟩), .int .i64 i, .agg #[.int .i64 s'.1, .int .i64 s'.2.1, .int .u64 s'.2.2]] w fun e w' => e = .returned (.tuple #[]) ∧ Below w.heap.size w w' := by
  have hA := (Below.refl w.heap.size w).alloc (Nat.le_refl _) (.cells #[.int .i64 s'.1, .int .i64 s'.2.1, .int .u64 s'.2.2] 25)
  have hk := has_no g _ _ _ i _ (ht.later hA).own hi
  have HA := Lib.hid hA
  clear ht hA
  go_enter Try.func12, Try.ntmps12
  go_wp2_with (go_at_call 19; refine hk.mono ?_; rintro e w' ⟨rfl, rfl⟩)
  go_end0
  exact ⟨rfl, HA.out⟩
set_option maxHeartbeats 1600000 in
theorem seal_no (g h : Nat) (i n : Int) (l : List Sg) (w : World) (ht : Tab w g h l) (hi : i < 0 ∨ (l.length : Int) ≤ i) :
    Calls Try.prog 16 #[.pointer (some ⟨g, 0, none⟩), .int .i64 i, .int .u64 n] w fun e w' => e = .returned (.tuple #[]) ∧ w = w' := by
  have hk := has_no g _ _ _ i _ ht.own hi
  clear ht
  go_enter Try.func16, Try.ntmps16
  go_wp2_with (go_at_call 19; refine hk.mono ?_; rintro e w' ⟨rfl, rfl⟩)
  go_end0
  exact ⟨rfl, rfl⟩
/-! ### each change of a table, whatever the place -/
/-- Segment i (if there is one) is turned by f. -/
def upd (l : List Sg) (i : Int) (f : Sg → Sg) : List Sg := if 0 ≤ i then l.modify i.toNat f else l
theorem upd_len (l : List Sg) (i : Int) (f : Sg → Sg) : (upd l i f).length = l.length := by unfold upd; split <;> simp
theorem upd_no {l : List Sg} {i : Int} (f : Sg → Sg) (h : i < 0 ∨ (l.length : Int) ≤ i) : upd l i f = l := by
  unfold upd
  split
  · rw [List.modify_eq_self (by omega)]
  · rfl
theorem upd_yes {l : List Sg} {i : Nat} {s : Sg} (f : Sg → Sg) (h : l[i]? = some s) : upd l i f = l.set i (f s) := by
  unfold upd
  rw [if_pos (by omega), Int.toNat_natCast]
  apply List.ext_getElem?
  intro j
  rw [List.getElem?_modify, List.getElem?_set]
  have hlt : i < l.length := (List.getElem?_eq_some_iff.1 h).1
  by_cases e : i = j
  · have he := (List.getElem?_eq_some_iff.1 h).2
    subst e; simp [hlt, he]
  · simp [e]
theorem at_or (l : List Sg) (i : Int) : (i < 0 ∨ (l.length : Int) ≤ i) ∨ ∃ (k : Nat) (s : Sg), i = k ∧ l[k]? = some s := by
  rcases Int.lt_or_le i 0 with h | h
  · exact .inl (.inl h)
  · rcases Int.lt_or_le i l.length with h1 | h1
    · refine .inr ⟨i.toNat, l[i.toNat]'(by omega), by omega, ?_⟩
      rw [List.getElem?_eq_getElem]
    · exact .inl (.inr h1)
theorem seal_any (g h : Nat) (i n : Int) (l : List Sg) (w : World) (ht : Tab w g h l) :
    Calls Try.prog 16 #[.pointer (some ⟨g, 0, none⟩), .int .i64 i, .int .u64 n] w fun e w' => e = .returned (.tuple #[]) ∧ TabTo w w' g h (upd l i fun s => (2, s.2.1, n)) := by
  rcases at_or l i with hi | ⟨k, s, rfl, hi⟩
  · refine (seal_no g h i n l w ht hi).mono ?_
    rintro e w' ⟨rfl, rfl⟩
    rw [upd_no _ hi]
    exact ⟨rfl, .refl ht⟩
  · rw [upd_yes _ hi]
    exact seal_yes g h k n l s w ht hi
theorem set_any (g h : Nat) (i : Int) (l : List Sg) (s' : Sg) (w : World) (ht : Tab w g h l) :
    Calls Try.prog 12 #[.pointer (some ⟨g, 0, none⟩), .int .i64 i, .agg #[.int .i64 s'.1, .int .i64 s'.2.1, .int .u64 s'.2.2]] w fun e w' => e = .returned (.tuple #[]) ∧ TabTo w w' g h (upd l i fun _ => s') := by
  rcases at_or l i with hi | ⟨k, s, rfl, hi⟩
  · refine (set_no g h i l s' w ht hi).mono ?_
    rintro e w' ⟨rfl, hb⟩
    rw [upd_no _ hi]
    exact ⟨rfl, ht.later hb, Fr.of_below hb fun b h1 h2 => absurd h1 (by omega)⟩
  · rw [upd_yes _ hi]
    exact set_yes g h k l s s' w ht hi
theorem sg_neq (x y : Sg) (W : World) : (binOp .neq 25 (.agg #[.int .i64 x.1, .int .i64 x.2.1, .int .u64 x.2.2]) (.agg #[.int .i64 y.1, .int .i64 y.2.1, .int .u64 y.2.2])).run Try.prog W = .ok (.bool (!decide (x = y))) W := by
  obtain ⟨a, b, c⟩ := x
  obtain ⟨a', b', c'⟩ := y
  go_simp
  by_cases h1 : a = a' <;> by_cases h2 : b = b' <;> by_cases h3 : c = c' <;> simp [h1, h2, h3]
theorem sg_eql (x y : Sg) (W : World) : (binOp .eql 25 (.agg #[.int .i64 x.1, .int .i64 x.2.1, .int .u64 x.2.2]) (.agg #[.int .i64 y.1, .int .i64 y.2.1, .int .u64 y.2.2])).run Try.prog W = .ok (.bool (decide (x = y))) W := by
  obtain ⟨a, b, c⟩ := x
  obtain ⟨a', b', c'⟩ := y
  go_simp
  by_cases h1 : a = a' <;> by_cases h2 : b = b' <;> by_cases h3 : c = c' <;> simp [h1, h2, h3]
/-- A segment's numbers; a zero one's, if there is none such. -/
def sgAt (l : List Sg) (i : Int) : Sg := if 0 ≤ i then l.getD i.toNat (0, 0, 0) else (0, 0, 0)
end Go.Proofs.Ytlkfinkgekkcfaa
