/- The walks of power.Run and its deferred closure, of Tick when the power goes, and of Limit. No further condition. -/
import Derived.Test.YtgcmfcdbgimnjaaNv
import Derived.Recover
namespace Go.Proofs.Ytgcmfcdbgimnjaa
open Go.RowKit

def gone : List PanicEntry := [{ v := .iface 65 (.agg #[]), recovered := false }]
theorem catch_idle (p : Addr) (w : World) :
    CallsD Try.prog 27 #[.pointer (some p)] .returning w fun e u' w' => e = .returned (.tuple #[]) ∧ u' = .returning ∧ w' = w := by
  refine callsD_of_wpS Try.func27 rfl fun c₀ cs hu => ?_
  apply wpS_seq
  apply wpS_region
  simp [wpOpsS, go_sem, recoverD, hu, Try.ntmps27, Exit.thenS]
  apply wpS_seq
  apply wpS_region
  simp [wpOpsS, go_sem, Exit.thenS, Array.replicate]
  refine wpS_cond (t := false) (by simp [Act.eval]) ?_
  simp only [Bool.false_eq_true, if_false]
  refine wpS_of_wp (wp_skip ?_)
  cases c₀
  simp_all [bodyPostS, results, Try.results27]

set_option maxHeartbeats 800000 in
theorem catch_gone (p : Addr) (b : Bool) (older : List PanicEntry) (w : World) (hc : w.cell? p = some (.bool b)) (hz : w.frozen? p = false) :
    CallsD Try.prog 27 #[.pointer (some p)] (.panicking ({ v := .iface 65 (.agg #[]), recovered := false } :: older)) w fun e u' w' =>
      e = .returned (.tuple #[]) ∧ u' = .panicking ({ v := .iface 65 (.agg #[]), recovered := true } :: older) ∧ w' = (w.alloc (.cells #[] 65)).setCell p (.bool true) := by
  have hta : ∀ W : World, (Instr.typeAssert (.iface 65 (.agg #[])) 20 65 true).run Try.prog W = .ok (.tuple #[.agg #[], .bool true]) W := fun _ => by kernel_rfl
  have hlt := World.block_lt_of_cell? w p hc
  have hc1 : (w.alloc (.cells #[] 65)).cell? p = some (.bool b) := (World.cell?_alloc_lt w _ p hlt).trans hc
  have hz1 : (w.alloc (.cells #[] 65)).frozen? p = false := (World.frozen?_alloc_old _ _ _ (by omega)).trans hz
  refine callsD_of_wpS Try.func27 rfl fun c₀ cs hu => ?_
  apply wpS_seq
  apply wpS_region
  simp [wpOpsS, go_sem, recoverD, hu, Try.ntmps27, Exit.thenS]
  apply wpS_seq
  apply wpS_region
  simp [wpOpsS, go_sem, Exit.thenS, Array.replicate]
  refine wpS_cond (t := true) (by simp [Act.eval]) ?_
  simp only [if_true]
  refine wpS_of_wp ?_
  clear hc hz hlt
  go_wp2
  simp [bodyPostS, results, Try.results27]

set_option maxHeartbeats 800000 in
/-- Run over a closure that ends, or in which the power goes. -/
theorem run_either (K : FuncId) (cap : Array Value) (w : World) (Q1 Q2 : World → Prop)
    (hen : ∀ W : World, (callFunc K cap).run Try.prog W = .ok (.enter K cap) W)
    (hk : Calls Try.prog K cap (w.alloc (.cells #[.bool false] 4)) fun e w' => (e = .returned (.tuple #[]) ∧ Blk w' w.heap.size 4 #[.bool false] ∧ Q1 w') ∨ (e = .panicked gone ∧ Blk w' w.heap.size 4 #[.bool false] ∧ Q2 w')) :
    Calls Try.prog 21 #[.func (.func K) #[] cap] w fun e w' => (e = .returned (.bool false) ∧ ∃ w1, Blk w1 w.heap.size 4 #[.bool false] ∧ Q1 w1 ∧ w' = w1.setCell ⟨w.heap.size, 0, none⟩ (.bool false)) ∨ (e = .returned (.bool true) ∧ ∃ w1, Blk w1 w.heap.size 4 #[.bool false] ∧ Q2 w1 ∧ w' = (w1.alloc (.cells #[] 65)).setCell ⟨w.heap.size, 0, none⟩ (.bool true)) := by
  have hmf : ∀ (fn : Fn) (first cap : Array Value) (w : World), (Instr.makeFunc fn first cap).run Try.prog w = .ok (.func fn first cap) w := fun _ _ _ _ => rfl
  have hn : ∀ W : World, (binOp BinOp.neq 1 (Value.func (Fn.func K) #[] cap) Value.nilFunc).run Try.prog W = .ok (.bool true) W := fun _ => by rfl
  go_enter_defers Try.func21, Try.ntmps21
  go_wp2
  refine hk.mono ?_
  rintro e w1 (⟨rfl, hw1, hq⟩ | ⟨rfl, hw1, hq⟩)
  · have hc : w1.cell? ⟨w.heap.size, 0, none⟩ = some (.bool false) := (hw1.cell 0).trans rfl
    have hz : w1.frozen? ⟨w.heap.size, 0, none⟩ = false := hw1.frozen 0
    go_wp2
    refine leaves_cons (f := 27) (args := #[.pointer (some ⟨w.heap.size, 0, none⟩)]) (by simp) (by simp [go_sem]) ?_
    refine (catch_idle ⟨w.heap.size, 0, none⟩ _).mono ?_
    rintro e u' w'' ⟨rfl, rfl, rfl⟩
    have hw2 := hw1.set_ 0 (.bool false)
    have hc2 : (w1.setCell ⟨w.heap.size, 0, none⟩ (.bool false)).cell? ⟨w.heap.size, 0, none⟩ = some (.bool false) := (hw2.cell 0).trans rfl
    simp [Leaves, settle, results, Try.results21, go_sem, hc2]
    exact ⟨w1, hw1, hq, rfl⟩
  · have hc : w1.cell? ⟨w.heap.size, 0, none⟩ = some (.bool false) := (hw1.cell 0).trans rfl
    have hz : w1.frozen? ⟨w.heap.size, 0, none⟩ = false := hw1.frozen 0
    have hw2 : Blk (w1.alloc (.cells #[] 65)) w.heap.size 4 #[.bool false] := hw1.alloc _
    have hw3 := hw2.set_ 0 (.bool true)
    have hc2 : ((w1.alloc (.cells #[] 65)).setCell ⟨w.heap.size, 0, none⟩ (.bool true)).cell? ⟨w.heap.size, 0, none⟩ = some (.bool true) := (hw3.cell 0).trans rfl
    show bodyPostD Try.prog Try.f21 _ (Exit.panic gone) _ w1
    simp only [bodyPostD]
    refine leaves_cons (f := 27) (args := #[.pointer (some ⟨w.heap.size, 0, none⟩)]) (by simp) (by simp [go_sem]) ?_
    refine (catch_gone ⟨w.heap.size, 0, none⟩ false [] w1 hc hz).mono ?_
    rintro e u' w'' ⟨rfl, rfl, rfl⟩
    simp [Leaves, settle, results, Try.results21, go_sem, hc2]
    exact ⟨w1, hw1, hq, rfl⟩
set_option maxHeartbeats 1600000 in
theorem tick_off (h : Nat) (used limit : Int) (w : World) (hb : Blk w h 60 #[.int .i64 used, .int .i64 limit]) (hl : 0 ≤ limit) (hlt : limit ≤ used) :
    Calls Try.prog 23 #[.pointer (some ⟨h, 0, none⟩)] w fun e w' => e = .panicked gone ∧ ∃ n, w' = w.drewN n := by
  obtain ⟨c0, c1⟩ := hb.cells2
  have f0 := hb.frozen 0
  have d1 : decide (0 ≤ limit) = true := by simp; omega
  have d2 : decide (limit ≤ used) = true := by simp; omega
  clear hb
  go_enter Try.func23, Try.ntmps23
  go_wp2
  go_quiet (fail)
  go_wp2
  exact ⟨rfl, rfl, _, rfl⟩
set_option maxHeartbeats 1600000 in
theorem limit_ok (h : Nat) (used limit more : Int) (w : World) (hb : Blk w h 60 #[.int .i64 used, .int .i64 limit]) (h0 : 0 ≤ more) (h1 : more ≤ 1000000) (h2 : 0 ≤ used) (h3 : used ≤ 1000000) :
    Calls Try.prog 20 #[.pointer (some ⟨h, 0, none⟩), .int .i64 more] w fun e w' => e = .returned (.tuple #[]) ∧ Blk w' h 60 #[.int .i64 used, .int .i64 (used + more)] ∧ Fr (· = h) w w' := by
  obtain ⟨c0, c1⟩ := hb.cells2
  have f1 := hb.frozen 1
  have wu : IntKind.i64.wrap (used + more) = used + more := IntWalk.i64_in _ (by omega)
  have d1 : decide (0 ≤ more) = true := by simp; omega
  have HS := Lib.hid ((hb.set_ 1 (.int .i64 (-1))).set_ 1 (.int .i64 (used + more)))
  have HF : Hid (Fr (· = h) w ((w.setCell ⟨h, 1, none⟩ (.int .i64 (-1))).setCell ⟨h, 1, none⟩ (.int .i64 (used + more)))) := Lib.hid (Fr.setCell (Fr.setCell (Fr.refl (· = h) w) (p := ⟨h, 1, none⟩) (.inl rfl) _) (p := ⟨h, 1, none⟩) (.inl rfl) _)
  clear hb
  go_enter Try.func20, Try.ntmps20
  go_wp2
  go_end0
  exact ⟨rfl, HS.out, HF.out⟩
end Go.Proofs.Ytgcmfcdbgimnjaa
