/- Run over PowerCounts' closure. No further condition. -/
import Derived.Test.YtejnhcbhdhifdaaCnt
namespace Go.Proofs.Ytejnhcbhdhifdaa
open Go.RowKit

theorem Whole.alloc {w : World} {g : Nat} {t : TypeId} {cs : Array Value} (h : Whole w g t cs) (o : Obj) : Whole (w.alloc o) g t cs := by
  have hlt := h.lt
  show (w.heap.push _)[g]? = _
  rw [Array.getElem?_push, if_neg (by omega)]
  exact h
theorem Whole.new (w : World) (t : TypeId) (cs : Array Value) : Whole (w.alloc (.cells cs t)) w.heap.size t cs := by
  show (w.heap.push _)[w.heap.size]? = _
  simp
theorem Whole.past {w : World} {g : Nat} {t : TypeId} {cs : Array Value} (h : Whole w g t cs) {a : Addr} (hn : g ≠ a.block) (u : Value) : Whole (w.setCell a u) g t cs := by
  unfold Whole at h ⊢
  rw [Below.heap_setCell w a u g hn]
  exact h
theorem Whole.pw {w w1 : World} {g b : Nat} {lim u : Int} {t : TypeId} {cs : Array Value} (h : Whole w b t cs) (k : Pw w w1 g lim u) (hn : b ≠ g) : Whole w1 b t cs := by
  have := k.grown.block b h.lt (fun e => hn (by injection e))
  unfold Whole at h ⊢
  rw [this]
  exact h

theorem enter_counts (cap : Array Value) : ∀ W : World, (callFunc 11 cap).run Try.prog W = .ok (.enter 11 cap) W := fun _ => by rfl

set_option maxHeartbeats 800000 in
theorem run_counts_all (B g tb pb xb : Nat) (lim : Int) (t : Nat) (b : Bool) (w : World) (hg : Whole w g 38 #[.int .i64 0, .int .i64 lim])
    (ht : Whole w tb 5 #[.int .u8 t]) (hp : Whole w pb 24 #[.pointer (some ⟨g, 0, none⟩)]) (hx : Whole w xb 4 #[.bool b])
    (h1 : tb ≠ g) (h2 : pb ≠ g) (h3 : xb ≠ g) (h4 : tb ≠ xb) (h5 : pb ≠ xb) (ht2 : t ≤ 255) (hB1 : B ≤ g) (hB2 : B ≤ xb)
    (hl : lim < 0 ∨ (t : Int) ≤ lim) :
    Calls Try.prog 10 #[.func (.func 11) #[] #[.pointer (some ⟨tb, 0, none⟩), .pointer (some ⟨pb, 0, none⟩), .pointer (some ⟨xb, 0, none⟩)]] w fun e w' =>
      e = .returned (.bool false) ∧ Below B w w' ∧ Whole w' g 38 #[.int .i64 t, .int .i64 lim] ∧ Whole w' tb 5 #[.int .u8 t] ∧ Whole w' pb 24 #[.pointer (some ⟨g, 0, none⟩)] ∧ Whole w' xb 4 #[.bool true] := by
  have lg := hg.lt
  have lt := ht.lt
  have lp := hp.lt
  have lx := hx.lt
  have Hg := hg.alloc (.cells #[.bool false] 4)
  have Ht := ht.alloc (.cells #[.bool false] 4)
  have Hp := hp.alloc (.cells #[.bool false] 4)
  have Hx := hx.alloc (.cells #[.bool false] 4)
  have Hn := Whole.new w 4 #[.bool false]
  refine (run_ends 11 _ w (fun w1 => ∃ w0, Pw (w.alloc (.cells #[.bool false] 4)) w0 g lim (0 + t) ∧ w1 = w0.setCell ⟨xb, 0, none⟩ (.bool true)) (enter_counts _) ?_).mono ?_
  · refine (counts_all g 0 lim t _ _ _ b _ Hg ((Ht.cell 0).trans rfl) ((Hp.cell 0).trans rfl) ((Hx.cell 0).trans rfl) (Hx.frozen 0) h1 h2 h3 ht2 (by omega) (by omega) (by omega)).mono ?_
    rintro e w' ⟨rfl, w1, hP, rfl⟩
    exact ⟨rfl, (Hn.pw hP (by omega)).past (show w.heap.size ≠ xb by omega) _, w1, hP, rfl⟩
  · rintro e w' ⟨rfl, w1, -, ⟨w0, hP, rfl⟩, rfl⟩
    have n1 : g ≠ w.heap.size := by omega
    have n2 : tb ≠ w.heap.size := by omega
    have n3 : pb ≠ w.heap.size := by omega
    have n4 : xb ≠ w.heap.size := by omega
    have hgw : Whole w0 g 38 #[.int .i64 t, .int .i64 lim] := by simpa using hP.whole
    refine ⟨rfl, ?_, (hgw.past (Ne.symm h3) _).past n1 _, ((Ht.pw hP h1).past h4 _).past n2 _, ((Hp.pw hP h2).past h5 _).past n3 _, Whole.past ((Hx.pw hP h3).set_ 0 (.bool true)) n4 _⟩
    refine Below.setCell (Below.setCell ?_ (by exact hB2) _) (by show B ≤ w.heap.size; omega) _
    refine Below.grown ((Below.refl B w).alloc (by omega) _) hP.grown (by simp; omega) ?_
    intro k hk
    injection hk with hk
    omega

set_option maxHeartbeats 800000 in
theorem run_counts_off (B g tb pb xb : Nat) (lim : Int) (t : Nat) (b : Bool) (w : World) (hg : Whole w g 38 #[.int .i64 0, .int .i64 lim])
    (ht : Whole w tb 5 #[.int .u8 t]) (hp : Whole w pb 24 #[.pointer (some ⟨g, 0, none⟩)]) (hx : Whole w xb 4 #[.bool b])
    (h1 : tb ≠ g) (h2 : pb ≠ g) (h3 : xb ≠ g) (ht2 : t ≤ 255) (hB1 : B ≤ g)
    (hl0 : 0 ≤ lim) (hl : lim < (t : Int)) :
    Calls Try.prog 10 #[.func (.func 11) #[] #[.pointer (some ⟨tb, 0, none⟩), .pointer (some ⟨pb, 0, none⟩), .pointer (some ⟨xb, 0, none⟩)]] w fun e w' =>
      e = .returned (.bool true) ∧ Below B w w' ∧ Whole w' g 38 #[.int .i64 lim, .int .i64 lim] ∧ Whole w' tb 5 #[.int .u8 t] ∧ Whole w' pb 24 #[.pointer (some ⟨g, 0, none⟩)] ∧ Whole w' xb 4 #[.bool b] := by
  have lg := hg.lt
  have lt := ht.lt
  have lp := hp.lt
  have lx := hx.lt
  have Hg := hg.alloc (.cells #[.bool false] 4)
  have Ht := ht.alloc (.cells #[.bool false] 4)
  have Hp := hp.alloc (.cells #[.bool false] 4)
  have Hx := hx.alloc (.cells #[.bool false] 4)
  have Hn := Whole.new w 4 #[.bool false]
  refine (run_gone 11 _ w (fun w1 => Pw (w.alloc (.cells #[.bool false] 4)) w1 g lim lim) (enter_counts _) ?_).mono ?_
  · refine (counts_off g 0 lim t _ _ _ _ Hg ((Ht.cell 0).trans rfl) ((Hp.cell 0).trans rfl) h1 h2 ht2 (by omega) (by omega) (by omega) (by omega)).mono ?_
    rintro e w' ⟨rfl, hP⟩
    exact ⟨rfl, Hn.pw hP (by omega), hP⟩
  · rintro e w' ⟨rfl, w1, -, hP, rfl⟩
    have n1 : g ≠ w.heap.size := by omega
    have n2 : tb ≠ w.heap.size := by omega
    have n3 : pb ≠ w.heap.size := by omega
    have n4 : xb ≠ w.heap.size := by omega
    have hs := hP.size
    simp at hs
    refine ⟨rfl, ?_, (hP.whole.alloc _).past n1 _, ((Ht.pw hP h1).alloc _).past n2 _, ((Hp.pw hP h2).alloc _).past n3 _, ((Hx.pw hP h3).alloc _).past n4 _⟩
    refine Below.setCell (Below.alloc ?_ (by omega) _) (by show B ≤ w.heap.size; omega) _
    refine Below.grown ((Below.refl B w).alloc (by omega) _) hP.grown (by simp; omega) ?_
    intro k hk
    injection hk with hk
    omega
end Go.Proofs.Ytejnhcbhdhifdaa
