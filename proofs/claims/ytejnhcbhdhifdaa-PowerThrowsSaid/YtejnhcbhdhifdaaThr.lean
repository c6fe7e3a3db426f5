/- The walks of PowerThrows. No further condition. -/
import Derived.Test.YtejnhcbhdhifdaaCou
namespace Go.Proofs.Ytejnhcbhdhifdaa
open Go.RowKit
set_option linter.unusedSimpArgs false

def num (n : Int) (b : Bool) : PanicEntry := { v := .iface 2 (.int .i64 n), recovered := b }

set_option maxHeartbeats 800000 in
theorem throw_in (n : Int) (a : Addr) (w : World) (hc : w.cell? a = some (.int .i64 n)) :
    Calls Try.prog 16 #[.pointer (some a)] w fun e w' => e = .panicked [num n false] ∧ w' = w := by
  go_enter Try.func16, Try.ntmps16
  go_wp2
  exact ⟨rfl, rfl, rfl⟩

set_option maxHeartbeats 800000 in
/-- Run of nothing. -/
theorem run_nil (w : World) :
    Calls Try.prog 10 #[.nilFunc] w fun e w' => e = .returned (.bool false) ∧ Below w.heap.size w w' := by
  have hmf : ∀ (fn : Fn) (first cap : Array Value) (w : World), (Instr.makeFunc fn first cap).run Try.prog w = .ok (.func fn first cap) w := fun _ _ _ _ => rfl
  have hn : ∀ W : World, (binOp BinOp.neq 1 Value.nilFunc Value.nilFunc).run Try.prog W = .ok (.bool false) W := fun _ => by rfl
  have HN := Whole.new w 4 #[.bool false]
  have hb : Below w.heap.size w (w.alloc (.cells #[.bool false] 4)) := (Below.refl _ w).alloc (Nat.le_refl _) _
  have hc2 := (HN.set_ 0 (.bool false)).cell 0
  go_enter_defers Try.func10, Try.ntmps10
  go_wp2
  refine leaves_cons (f := 24) (args := #[.pointer (some ⟨w.heap.size, 0, none⟩)]) (by simp) (by simp [go_sem]) ?_
  refine (catch_idle ⟨w.heap.size, 0, none⟩ _).mono ?_
  rintro e u' w'' ⟨rfl, rfl, rfl⟩
  have hc3 : ((w.alloc (.cells #[.bool false] 4)).setCell ⟨w.heap.size, 0, none⟩ (.bool false)).cell? ⟨w.heap.size, 0, none⟩ = some (.bool false) := hc2.trans rfl
  simp [Leaves, settle, results, Try.results10, go_sem, hc3]
  exact hb

theorem enter_16 (cap : Array Value) : ∀ W : World, (callFunc 16 cap).run Try.prog W = .ok (.enter 16 cap) W := fun _ => by rfl
theorem enter_15 (cap : Array Value) : ∀ W : World, (callFunc 15 cap).run Try.prog W = .ok (.enter 15 cap) W := fun _ => by rfl

set_option maxHeartbeats 800000 in
theorem throw_mid (n : Int) (tb : Nat) (w : World) (hT : Whole w tb 2 #[.int .i64 n]) :
    Calls Try.prog 15 #[.pointer (some ⟨tb, 0, none⟩)] w fun e w' => e = .panicked [num n false, num n true] ∧ Below w.heap.size w w' := by
  have hmf : ∀ (fn : Fn) (first cap : Array Value) (w : World), (Instr.makeFunc fn first cap).run Try.prog w = .ok (.func fn first cap) w := fun _ _ _ _ => rfl
  have hb := ((Below.refl w.heap.size w).alloc (Nat.le_refl _) (.cells #[.bool false] 4)).alloc (by simp) (.cells #[] 40)
  have hr := run_throws 16 #[.pointer (some ⟨tb, 0, none⟩)] n w (fun w1 => w1 = w.alloc (.cells #[.bool false] 4)) (enter_16 _) (by
    refine (throw_in n ⟨tb, 0, none⟩ _ (((hT.alloc _).cell 0).trans rfl)).mono ?_
    rintro e w' ⟨rfl, rfl⟩
    exact ⟨rfl, Whole.new w 4 _, rfl⟩)
  go_enter Try.func15, Try.ntmps15
  go_wp2_with (go_at_call 10; refine hr.mono ?_; rintro e w1 ⟨rfl, w2, -, rfl, rfl⟩)
  exact ⟨rfl, rfl, hb⟩

set_option maxHeartbeats 800000 in
theorem catch_num (p q : Nat) (n m : Int) (b : Bool) (older : List PanicEntry) (w : World) (hc : Whole w p 2 #[.int .i64 m]) (hz : Whole w q 4 #[.bool b]) (hne : p ≠ q) :
    CallsD Try.prog 25 #[.pointer (some ⟨p, 0, none⟩), .pointer (some ⟨q, 0, none⟩)] (.panicking (num n false :: older)) w fun e u' w' =>
      e = .returned (.tuple #[]) ∧ u' = .panicking (num n true :: older) ∧ w' = (w.setCell ⟨p, 0, none⟩ (.int .i64 n)).setCell ⟨q, 0, none⟩ (.bool true) := by
  have hta : ∀ W : World, (Instr.typeAssert (.iface 2 (.int .i64 n)) 20 2 true).run Try.prog W = .ok (.tuple #[.int .i64 n, .bool true]) W := fun _ => by kernel_rfl
  have h1 : w.cell? ⟨p, 0, none⟩ = some (.int .i64 m) := (hc.cell 0).trans rfl
  have h2 : w.frozen? ⟨p, 0, none⟩ = false := hc.frozen 0
  have h3 : (w.setCell ⟨p, 0, none⟩ (.int .i64 n)).cell? ⟨q, 0, none⟩ = some (.bool b) := ((hz.past (Ne.symm hne) _).cell 0).trans rfl
  have h4 : (w.setCell ⟨p, 0, none⟩ (.int .i64 n)).frozen? ⟨q, 0, none⟩ = false := (hz.past (Ne.symm hne) _).frozen 0
  clear hc hz
  refine callsD_of_wpS Try.func25 rfl fun c₀ cs hu => ?_
  apply wpS_region
  simp [wpOpsS, go_sem, recoverD, hu, Try.ntmps25, Exit.thenS, num, hta, h1, h2, h3, h4, bodyPostS, results, Try.results25]

set_option maxHeartbeats 800000 in
theorem thrown_ok (n : Int) (tb : Nat) (w : World) (hT : Whole w tb 2 #[.int .i64 n]) :
    Calls Try.prog 14 #[.func (.func 15) #[] #[.pointer (some ⟨tb, 0, none⟩)]] w fun e w' => e = .returned (.tuple #[.int .i64 n, .bool true]) ∧ Below w.heap.size w w' := by
  have hmf : ∀ (fn : Fn) (first cap : Array Value) (w : World), (Instr.makeFunc fn first cap).run Try.prog w = .ok (.func fn first cap) w := fun _ _ _ _ => rfl
  have hen := enter_15 #[.pointer (some ⟨tb, 0, none⟩)]
  have hk := throw_mid n tb _ ((hT.alloc (.cells #[.int .i64 0] 2)).alloc (.cells #[.bool false] 4))
  go_enter_defers Try.func14, Try.ntmps14
  go_wp2_with (go_at_call 15; refine hk.mono ?_; rintro e w1 ⟨rfl, hB⟩)
  have hp : Whole w1 w.heap.size 2 #[.int .i64 0] := ((Whole.new w 2 #[.int .i64 0]).alloc _).below hB (by simp; omega)
  have hq : Whole w1 (w.heap.size + 1) 4 #[.bool false] := by
    have := Whole.new (w.alloc (.cells #[.int .i64 0] 2)) 4 #[.bool false]
    rw [World.size_alloc] at this
    exact this.below hB (by simp)
  show bodyPostD Try.prog Try.f14 _ (Exit.panic _) _ w1
  simp only [bodyPostD]
  refine leaves_cons (f := 25) (args := #[.pointer (some ⟨w.heap.size, 0, none⟩), .pointer (some ⟨w.heap.size + 1, 0, none⟩)]) (by simp) (by simp [go_sem]) ?_
  refine (catch_num w.heap.size (w.heap.size + 1) n 0 false [num n true] w1 hp hq (by omega)).mono ?_
  rintro e u' w'' ⟨rfl, rfl, rfl⟩
  have hc1 : ((w1.setCell ⟨w.heap.size, 0, none⟩ (.int .i64 n)).setCell ⟨w.heap.size + 1, 0, none⟩ (.bool true)).cell? ⟨w.heap.size, 0, none⟩ = some (.int .i64 n) := (((hp.set_ 0 (.int .i64 n)).past (show w.heap.size ≠ w.heap.size + 1 by omega) _).cell 0).trans rfl
  have hc2 : ((w1.setCell ⟨w.heap.size, 0, none⟩ (.int .i64 n)).setCell ⟨w.heap.size + 1, 0, none⟩ (.bool true)).cell? ⟨w.heap.size + 1, 0, none⟩ = some (.bool true) := (((hq.past (show w.heap.size + 1 ≠ w.heap.size by omega) _).set_ 0 (.bool true)).cell 0).trans rfl
  have hBB : Below w.heap.size w ((w1.setCell ⟨w.heap.size, 0, none⟩ (.int .i64 n)).setCell ⟨w.heap.size + 1, 0, none⟩ (.bool true)) :=
    (((((Below.refl w.heap.size w).alloc (Nat.le_refl _) _).alloc (by simp) _).trans (hB.mono (by simp; omega))).setCell (Nat.le_refl _) _).setCell (by simp) _
  simp [Leaves, settle, num, PanicEntry.goexit, results, Try.results14, go_sem, hc1, hc2]
  exact hBB
end Go.Proofs.Ytejnhcbhdhifdaa
