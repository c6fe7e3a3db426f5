/- The walks of power.Run and of its deferred closure. No further condition. -/
import Derived.Test.YtejnhcbhdhifdaaPow
namespace Go.Proofs.Ytejnhcbhdhifdaa
open Go.RowKit

theorem catch_idle (p : Addr) (w : World) :
    CallsD Try.prog 24 #[.pointer (some p)] .returning w fun e u' w' => e = .returned (.tuple #[]) ∧ u' = .returning ∧ w' = w := by
  refine callsD_of_wpS Try.func24 rfl fun c₀ cs hu => ?_
  apply wpS_seq
  apply wpS_region
  simp [wpOpsS, go_sem, recoverD, hu, Try.ntmps24, Exit.thenS]
  apply wpS_seq
  apply wpS_region
  simp [wpOpsS, go_sem, Exit.thenS, Array.replicate]
  refine wpS_cond (t := false) (by simp [Act.eval]) ?_
  simp only [Bool.false_eq_true, if_false]
  refine wpS_of_wp (wp_skip ?_)
  cases c₀
  simp_all [bodyPostS, results, Try.results24]

set_option maxHeartbeats 800000 in
theorem catch_gone (p : Addr) (b : Bool) (older : List PanicEntry) (w : World) (hc : w.cell? p = some (.bool b)) (hz : w.frozen? p = false) :
    CallsD Try.prog 24 #[.pointer (some p)] (.panicking ({ v := .iface 40 (.agg #[]), recovered := false } :: older)) w fun e u' w' =>
      e = .returned (.tuple #[]) ∧ u' = .panicking ({ v := .iface 40 (.agg #[]), recovered := true } :: older) ∧ w' = (w.alloc (.cells #[] 40)).setCell p (.bool true) := by
  have hta : ∀ W : World, (Instr.typeAssert (.iface 40 (.agg #[])) 20 40 true).run Try.prog W = .ok (.tuple #[.agg #[], .bool true]) W := fun _ => by kernel_rfl
  have hlt := World.block_lt_of_cell? w p hc
  have hc1 : (w.alloc (.cells #[] 40)).cell? p = some (.bool b) := (World.cell?_alloc_lt w _ p hlt).trans hc
  have hz1 : (w.alloc (.cells #[] 40)).frozen? p = false := (World.frozen?_alloc_old _ _ _ (by omega)).trans hz
  refine callsD_of_wpS Try.func24 rfl fun c₀ cs hu => ?_
  apply wpS_seq
  apply wpS_region
  simp [wpOpsS, go_sem, recoverD, hu, Try.ntmps24, Exit.thenS]
  apply wpS_seq
  apply wpS_region
  simp [wpOpsS, go_sem, Exit.thenS, Array.replicate]
  refine wpS_cond (t := true) (by simp [Act.eval]) ?_
  simp only [if_true]
  refine wpS_of_wp ?_
  clear hc hz hlt
  go_wp2
  simp [bodyPostS, results, Try.results24]

set_option maxHeartbeats 800000 in
/-- What else is thrown is thrown on. -/
theorem catch_other (p : Addr) (n : Int) (older : List PanicEntry) (w : World) :
    CallsD Try.prog 24 #[.pointer (some p)] (.panicking ({ v := .iface 2 (.int .i64 n), recovered := false } :: older)) w fun e u' w' =>
      e = .panicked [{ v := .iface 2 (.int .i64 n), recovered := false }]
        ∧ u' = .panicking ({ v := .iface 2 (.int .i64 n), recovered := true } :: older)
        ∧ w' = w.alloc (.cells #[] 40) := by
  have hta : ∀ W : World, (Instr.typeAssert (.iface 2 (.int .i64 n)) 20 40 true).run Try.prog W = .ok (.tuple #[.agg #[], .bool false]) W := fun _ => by kernel_rfl
  refine callsD_of_wpS Try.func24 rfl fun c₀ cs hu => ?_
  apply wpS_seq
  apply wpS_region
  simp [wpOpsS, go_sem, recoverD, hu, Try.ntmps24, Exit.thenS]
  apply wpS_seq
  apply wpS_region
  simp [wpOpsS, go_sem, Exit.thenS, Array.replicate]
  refine wpS_cond (t := true) (by simp [Act.eval]) ?_
  simp only [if_true]
  refine wpS_of_wp ?_
  go_wp2
  simp [bodyPostS]

end Go.Proofs.Ytejnhcbhdhifdaa
