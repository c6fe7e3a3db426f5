/- The walk of power.Run over a closure's contract. No further condition. -/
import Derived.Test.YtejnhcbhdhifdaaRun
namespace Go.Proofs.Ytejnhcbhdhifdaa
open Go.RowKit

set_option maxHeartbeats 800000 in
/-- Run over a closure that ends. -/
theorem run_ends (K : FuncId) (cap : Array Value) (w : World) (Q : World → Prop)
    (hen : ∀ W : World, (callFunc K cap).run Try.prog W = .ok (.enter K cap) W)
    (hk : Calls Try.prog K cap (w.alloc (.cells #[.bool false] 4)) fun e w' => e = .returned (.tuple #[]) ∧ Whole w' w.heap.size 4 #[.bool false] ∧ Q w') :
    Calls Try.prog 10 #[.func (.func K) #[] cap] w fun e w' => e = .returned (.bool false) ∧ ∃ w1, Whole w1 w.heap.size 4 #[.bool false] ∧ Q w1 ∧ w' = w1.setCell ⟨w.heap.size, 0, none⟩ (.bool false) := by
  have hmf : ∀ (fn : Fn) (first cap : Array Value) (w : World), (Instr.makeFunc fn first cap).run Try.prog w = .ok (.func fn first cap) w := fun _ _ _ _ => rfl
  have hn : ∀ W : World, (binOp BinOp.neq 1 (Value.func (Fn.func K) #[] cap) Value.nilFunc).run Try.prog W = .ok (.bool true) W := fun _ => by rfl
  go_enter_defers Try.func10, Try.ntmps10
  go_wp2
  refine hk.mono ?_
  rintro e w1 ⟨rfl, hw1, hq⟩
  have hc : w1.cell? ⟨w.heap.size, 0, none⟩ = some (.bool false) := (hw1.cell 0).trans rfl
  have hz : w1.frozen? ⟨w.heap.size, 0, none⟩ = false := hw1.frozen 0
  go_wp2
  refine leaves_cons (f := 24) (args := #[.pointer (some ⟨w.heap.size, 0, none⟩)]) (by simp) (by simp [go_sem]) ?_
  refine (catch_idle ⟨w.heap.size, 0, none⟩ _).mono ?_
  rintro e u' w'' ⟨rfl, rfl, rfl⟩
  have hw2 := hw1.set_ 0 (.bool false)
  have hc2 : (w1.setCell ⟨w.heap.size, 0, none⟩ (.bool false)).cell? ⟨w.heap.size, 0, none⟩ = some (.bool false) := (hw2.cell 0).trans rfl
  simp [Leaves, settle, results, Try.results10, go_sem, hc2]
  exact ⟨w1, hw1, hq, rfl⟩

set_option maxHeartbeats 800000 in
/-- Run over a closure in which the power goes. -/
theorem run_gone (K : FuncId) (cap : Array Value) (w : World) (Q : World → Prop)
    (hen : ∀ W : World, (callFunc K cap).run Try.prog W = .ok (.enter K cap) W)
    (hk : Calls Try.prog K cap (w.alloc (.cells #[.bool false] 4)) fun e w' => e = .panicked gone ∧ Whole w' w.heap.size 4 #[.bool false] ∧ Q w') :
    Calls Try.prog 10 #[.func (.func K) #[] cap] w fun e w' => e = .returned (.bool true) ∧ ∃ w1, Whole w1 w.heap.size 4 #[.bool false] ∧ Q w1 ∧ w' = (w1.alloc (.cells #[] 40)).setCell ⟨w.heap.size, 0, none⟩ (.bool true) := by
  have hmf : ∀ (fn : Fn) (first cap : Array Value) (w : World), (Instr.makeFunc fn first cap).run Try.prog w = .ok (.func fn first cap) w := fun _ _ _ _ => rfl
  have hn : ∀ W : World, (binOp BinOp.neq 1 (Value.func (Fn.func K) #[] cap) Value.nilFunc).run Try.prog W = .ok (.bool true) W := fun _ => by rfl
  go_enter_defers Try.func10, Try.ntmps10
  go_wp2
  refine hk.mono ?_
  rintro e w1 ⟨rfl, hw1, hq⟩
  have hc : w1.cell? ⟨w.heap.size, 0, none⟩ = some (.bool false) := (hw1.cell 0).trans rfl
  have hz : w1.frozen? ⟨w.heap.size, 0, none⟩ = false := hw1.frozen 0
  have hw2 : Whole (w1.alloc (.cells #[] 40)) w.heap.size 4 #[.bool false] := by
    have hlt := hw1.lt
    show (w1.heap.push _)[w.heap.size]? = _
    rw [Array.getElem?_push, if_neg (by omega)]
    exact hw1
  have hw3 := hw2.set_ 0 (.bool true)
  have hc2 : ((w1.alloc (.cells #[] 40)).setCell ⟨w.heap.size, 0, none⟩ (.bool true)).cell? ⟨w.heap.size, 0, none⟩ = some (.bool true) := (hw3.cell 0).trans rfl
  show bodyPostD Try.prog Try.f10 _ (Exit.panic gone) _ w1
  simp only [bodyPostD]
  refine leaves_cons (f := 24) (args := #[.pointer (some ⟨w.heap.size, 0, none⟩)]) (by simp) (by simp [go_sem]) ?_
  refine (catch_gone ⟨w.heap.size, 0, none⟩ false [] w1 hc hz).mono ?_
  rintro e u' w'' ⟨rfl, rfl, rfl⟩
  simp [Leaves, settle, results, Try.results10, go_sem, hc2]
  exact ⟨w1, hw1, hq, rfl⟩

set_option maxHeartbeats 800000 in
/-- Run over a closure that throws a number. -/
theorem run_throws (K : FuncId) (cap : Array Value) (n : Int) (w : World) (Q : World → Prop)
    (hen : ∀ W : World, (callFunc K cap).run Try.prog W = .ok (.enter K cap) W)
    (hk : Calls Try.prog K cap (w.alloc (.cells #[.bool false] 4)) fun e w' => e = .panicked [{ v := .iface 2 (.int .i64 n), recovered := false }] ∧ Whole w' w.heap.size 4 #[.bool false] ∧ Q w') :
    Calls Try.prog 10 #[.func (.func K) #[] cap] w fun e w' => e = .panicked [{ v := .iface 2 (.int .i64 n), recovered := false }, { v := .iface 2 (.int .i64 n), recovered := true }] ∧ ∃ w1, Whole w1 w.heap.size 4 #[.bool false] ∧ Q w1 ∧ w' = (w1.alloc (.cells #[] 40)) := by
  have hmf : ∀ (fn : Fn) (first cap : Array Value) (w : World), (Instr.makeFunc fn first cap).run Try.prog w = .ok (.func fn first cap) w := fun _ _ _ _ => rfl
  have hn : ∀ W : World, (binOp BinOp.neq 1 (Value.func (Fn.func K) #[] cap) Value.nilFunc).run Try.prog W = .ok (.bool true) W := fun _ => by rfl
  go_enter_defers Try.func10, Try.ntmps10
  go_wp2
  refine hk.mono ?_
  rintro e w1 ⟨rfl, hw1, hq⟩
  show bodyPostD Try.prog Try.f10 _ (Exit.panic _) _ w1
  simp only [bodyPostD]
  refine leaves_cons (f := 24) (args := #[.pointer (some ⟨w.heap.size, 0, none⟩)]) (by simp) (by simp [go_sem]) ?_
  refine (catch_other ⟨w.heap.size, 0, none⟩ n [] w1).mono ?_
  rintro e u' w'' ⟨rfl, rfl, rfl⟩
  simp [Leaves, raised]
  exact ⟨w1, hw1, hq, rfl⟩
end Go.Proofs.Ytejnhcbhdhifdaa
