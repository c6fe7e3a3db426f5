/- Small words of this session's: what is read in a block that was just made. -/
import Derived.Test.YtkgeomjbagoomaaWWords
import Derived.Test.YtkgeomjbagoomaaWMore
import Derived.Below
import Derived.Laws.Rows
namespace Go.Proofs.Ytkgeomjbagoomaa.My
open Go.RowKit Go.Proofs.YtkgeomjbagoomaaW.PrintWords Go.Proofs.YtkgeomjbagoomaaW.PrintLast Go.Proofs.YtkgeomjbagoomaaW.PrintMore

theorem cell_alloc_new (w : World) (C : Array Value) (e : TypeId) (m : Nat × Nat) (j : Nat) : (w.alloc (.cells C e m)).cell? ⟨w.heap.size, j, none⟩ = C[j]? :=
  cell_of_row _ _ _ _ _ _ (heap_alloc_new w _)

theorem add_zero_off (b j : Nat) : ({ block := b, off := 0 } : Addr).add j = ⟨b, j, none⟩ := by
  unfold Addr.add
  split
  · rename_i h; subst h; rfl
  · simp

/-- A new row of whole numbers reads as its list, whatever mark it bears. -/
theorem C_new (w : World) (k : IntKind) (l : List Int) (e : TypeId) (m : Nat × Nat) (hl : l.length ≤ 9223372036854775807) :
    Kd.C (Kd.int k) (w.alloc (.cells (l.map (Value.int k)).toArray e m)) (some ⟨w.heap.size, 0, none⟩) l.length l := by
  refine ⟨rfl, hl, fun _ => ⟨_, rfl, fun j p hp => ⟨[.int k p], rfl, rfl, fun i u hu => ?_⟩⟩⟩
  have hi : i = 0 := by
    rcases Nat.eq_zero_or_pos i with h | h
    · exact h
    · rw [List.getElem?_eq_none (by simp; omega)] at hu; cases hu
  subst hi
  have hu' : u = .int k p := by simpa using hu.symm
  subst hu'
  rw [add_zero_off, cell_alloc_new]
  show _ = _
  rw [show (j * (Kd.int k).sz + 0) = j from by show j * 1 + 0 = j; omega]
  simp [hp]

/-- A cut's length, told in another way. -/
theorem reads_len {α : Type} {R : α → List Value → Prop} {size : Nat} {w : World} {A : Option Addr} {n m : Nat} {ps : List α} (h : n = m) (H : ReadsRow R size w A n ps) : ReadsRow R size w A m ps := h ▸ H

end Go.Proofs.Ytkgeomjbagoomaa.My
