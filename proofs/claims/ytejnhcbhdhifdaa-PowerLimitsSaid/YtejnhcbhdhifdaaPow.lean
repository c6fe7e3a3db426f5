/- The walks of package power: Tick, Used, Limit, New. No further condition. -/
import Derived.Test.YtejnhcbhdhifdaaRows
import Derived.Tactics
import Derived.Tactics2
import Derived.WalkKit
import Derived.Defers
import Derived.Recover
import Derived.Laws.Pointers
import Derived.Deep.QuietTactic
import Derived.BigQuiet
import Derived.Below
import Derived.Laws.Rows
import Derived.Outline
import Derived.Lib.Hide
import Derived.WalkLawsBesides
namespace Go.Proofs.Ytejnhcbhdhifdaa
open Go.RowKit

/-- A block known whole. -/
def Whole (w : World) (g : Nat) (t : TypeId) (cs : Array Value) : Prop := w.heap[g]? = some (.cells cs t (0, 0))
theorem Whole.cell {w : World} {g : Nat} {t : TypeId} {cs : Array Value} (h : Whole w g t cs) (i : Nat) : w.cell? ⟨g, i, none⟩ = cs[i]? := cell_of_row w g i cs t (0, 0) h
theorem Whole.frozen {w : World} {g : Nat} {t : TypeId} {cs : Array Value} (h : Whole w g t cs) (i : Nat) : w.frozen? ⟨g, i, none⟩ = false := by
  unfold Whole at h
  simp [World.frozen?, h]

theorem Whole.lt {w : World} {g : Nat} {t : TypeId} {cs : Array Value} (h : Whole w g t cs) : g < w.heap.size := by
  rcases Nat.lt_or_ge g w.heap.size with hlt | hge
  · exact hlt
  · unfold Whole at h; rw [Array.getElem?_eq_none hge] at h; cases h
theorem Whole.drewN {w : World} {g : Nat} {t : TypeId} {cs : Array Value} (h : Whole w g t cs) (n : Nat) : Whole (w.drewN n) g t cs := h
theorem Whole.set_ {w : World} {g : Nat} {t : TypeId} {cs : Array Value} (h : Whole w g t cs) (i : Nat) (u : Value) : Whole (w.setCell ⟨g, i, none⟩ u) g t (cs.setIfInBounds i u) := by
  unfold Whole at h ⊢
  simp [World.setCell, Array.getElem?_modify, h]

/-- Behind some operations: only the power's block may have turned; it has so many done. -/
structure Pw (w w' : World) (g : Nat) (lim u : Int) : Prop where
  grown : w.grownBy w' (some g)
  size : w'.heap.size = w.heap.size
  whole : Whole w' g 38 #[.int .i64 u, .int .i64 lim]
theorem Pw.refl {w : World} {g : Nat} {lim u : Int} (h : Whole w g 38 #[.int .i64 u, .int .i64 lim]) : Pw w w g lim u := ⟨World.grownBy.refl w _, rfl, h⟩
theorem Pw.trans {w w1 w2 : World} {g : Nat} {lim u v : Int} (h : Pw w w1 g lim u) (k : Pw w1 w2 g lim v) : Pw w w2 g lim v :=
  ⟨⟨k.grown.os.trans h.grown.os, k.grown.tape.trans h.grown.tape, k.grown.output.trans h.grown.output, Nat.le_trans h.grown.size k.grown.size, fun b hb hn => (k.grown.block b (by rw [h.size]; exact hb) hn).trans (h.grown.block b hb hn)⟩, k.size.trans h.size, k.whole⟩
theorem Pw.drewN {w w1 : World} {g : Nat} {lim u : Int} (h : Pw w w1 g lim u) (n : Nat) : Pw w (w1.drewN n) g lim u :=
  ⟨⟨by have := h.grown.os; exact this, by have := h.grown.tape; exact this, by have := h.grown.output; exact this, by have := h.grown.size; exact this, fun b hb hn => h.grown.block b hb hn⟩, h.size, h.whole⟩
theorem Pw.cell {w w1 : World} {g : Nat} {lim u : Int} (h : Pw w w1 g lim u) {a : Addr} {v : Value} (hc : w.cell? a = some v) (hn : a.block ≠ g) : w1.cell? a = some v :=
  (World.cell?_of_block (h.grown.block a.block (World.block_lt_of_cell? w a hc) (fun e => hn (by injection e)))).trans hc
theorem pw_set {w : World} {g : Nat} {lim u : Int} (h : Whole w g 38 #[.int .i64 u, .int .i64 lim]) (n : Nat) (v : Int) : Pw w ((w.drewN n).setCell ⟨g, 0, none⟩ (.int .i64 v)) g lim v := by
  refine ⟨⟨rfl, rfl, rfl, ?_, fun b _ hn => ?_⟩, ?_, (h.drewN n).set_ 0 (.int .i64 v)⟩
  · simp [World.setCell]
  · have : g ≠ b := fun e => hn (by rw [e])
    simp [World.setCell, Array.getElem?_modify, this]
  · simp [World.setCell]

def gone : List PanicEntry := [{ v := .iface 40 (.agg #[]), recovered := false }]

set_option maxHeartbeats 800000 in
theorem tick_free (g : Nat) (u lim : Int) (w : World) (hb : Whole w g 38 #[.int .i64 u, .int .i64 lim]) (hu : 0 ≤ u) (hu2 : u ≤ 4611686018427387904) (hl : lim < 0) :
    Calls Try.prog 12 #[.pointer (some ⟨g, 0, none⟩)] w fun e w' => e = .returned (.tuple #[]) ∧ Pw w w' g lim (u + 1) := by
  have hp := fun n => pw_set hb n (u + 1)
  have hr := Pw.refl hb
  have HP := Lib.hid hp
  have HR := Lib.hid hr
  clear hp hr
  have hc0 : w.cell? ⟨g, 0, none⟩ = some (.int .i64 u) := (hb.cell 0).trans rfl
  have hc1 : w.cell? ⟨g, 1, none⟩ = some (.int .i64 lim) := (hb.cell 1).trans rfl
  have hf : w.frozen? ⟨g, 0, none⟩ = false := hb.frozen 0
  have hd : decide (0 ≤ lim) = false := by simp; omega
  clear hb
  go_enter Try.func12, Try.ntmps12
  go_wp2
  go_quiet (fail)
  go_wp2
  go_end0
  exact ⟨rfl, HP.out _⟩
set_option maxHeartbeats 800000 in
theorem tick_on (g : Nat) (u lim : Int) (w : World) (hb : Whole w g 38 #[.int .i64 u, .int .i64 lim]) (hu : 0 ≤ u) (hu2 : u ≤ 4611686018427387904) (hl : 0 ≤ lim) (hlt : u < lim) :
    Calls Try.prog 12 #[.pointer (some ⟨g, 0, none⟩)] w fun e w' => e = .returned (.tuple #[]) ∧ Pw w w' g lim (u + 1) := by
  have hp := fun n => pw_set hb n (u + 1)
  have hr := Pw.refl hb
  have HP := Lib.hid hp
  have HR := Lib.hid hr
  clear hp hr
  have hc0 : w.cell? ⟨g, 0, none⟩ = some (.int .i64 u) := (hb.cell 0).trans rfl
  have hc1 : w.cell? ⟨g, 1, none⟩ = some (.int .i64 lim) := (hb.cell 1).trans rfl
  have hf : w.frozen? ⟨g, 0, none⟩ = false := hb.frozen 0
  have hd : decide (0 ≤ lim) = true := by simp; omega
  have hd2 : decide (lim ≤ u) = false := by simp; omega
  clear hb
  go_enter Try.func12, Try.ntmps12
  go_wp2
  go_quiet (fail)
  go_wp2
  go_end0
  exact ⟨rfl, HP.out _⟩
set_option maxHeartbeats 800000 in
theorem tick_off (g : Nat) (u lim : Int) (w : World) (hb : Whole w g 38 #[.int .i64 u, .int .i64 lim]) (hl : 0 ≤ lim) (hlt : lim ≤ u) :
    Calls Try.prog 12 #[.pointer (some ⟨g, 0, none⟩)] w fun e w' => e = .panicked gone ∧ Pw w w' g lim u := by
  have hp := fun n => pw_set hb n (u + 1)
  have hr := Pw.refl hb
  have HP := Lib.hid hp
  have HR := Lib.hid hr
  clear hp hr
  have hc0 : w.cell? ⟨g, 0, none⟩ = some (.int .i64 u) := (hb.cell 0).trans rfl
  have hc1 : w.cell? ⟨g, 1, none⟩ = some (.int .i64 lim) := (hb.cell 1).trans rfl
  have hf : w.frozen? ⟨g, 0, none⟩ = false := hb.frozen 0
  have hd : decide (0 ≤ lim) = true := by simp; omega
  have hd2 : decide (lim ≤ u) = true := by simp; omega
  clear hb
  go_enter Try.func12, Try.ntmps12
  go_wp2
  go_quiet (fail)
  go_wp2
  exact ⟨rfl, rfl, (HR.out).drewN _⟩
end Go.Proofs.Ytejnhcbhdhifdaa
