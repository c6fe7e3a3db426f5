/- The memory when the power goes; what NvWhole's closure keeps. No further condition. -/
import Derived.Test.YtgcmfcdbgimnjaaNv9
import Derived.Test.YtgcmfcdbgimnjaaRun
namespace Go.Proofs.Ytgcmfcdbgimnjaa
open Go.RowKit
attribute [local go_sem ↓] Go.wp_at_zero Go.wp_at_succ

set_option maxHeartbeats 3200000 in
theorem append_off (B g h : Nat) (used limit : Int) (v : Value) (l : List Rc) (next : Int) (r : Rt) (kd lb : Int) (u : Value) (w : World) (k : NvS w B g h used limit v l next r) (hf : (l.length : Int) < r.n) (h0 : 0 ≤ limit) (h1 : limit ≤ used) :
    Calls Try.prog 12 #[.pointer (some ⟨g, 0, none⟩), .int .i64 kd, .int .i64 lb, u] w fun e w' => e = .panicked gone ∧ Below w.heap.size w w' := by
  obtain ⟨A, c, rfl, -, -⟩ := own_form k.row
  have c1 := k.c 1 (.slice A l.length c) rfl
  have c7 := k.c 7 (.int .i64 r.n) rfl
  have d1 : decide (r.n ≤ (l.length : Int)) = false := decide_eq_false (by omega)
  have hpc := fun n => (k.later (below_drewN (Below.refl w.heap.size w) n)).c 0 (.pointer (some ⟨h, 0, none⟩)) rfl
  have htk := fun n => tick_off h used limit _ (k.later (below_drewN (Below.refl w.heap.size w) n)).pw h0 h1
  have HTK := Lib.hid htk
  clear k hf htk
  go_enter Try.func12, Try.ntmps12
  go_wp2
  go_quiet (fail)
  go_wp2_with (first | (go_at_call 23; (with_reducible refine (HTK.out _).mono ?_); rintro e w1 ⟨rfl, n, hw1⟩; subst hw1) | fail "no")
  exact ⟨rfl, rfl, below_drewN (Below.refl _ _) _⟩
set_option maxHeartbeats 3200000 in
theorem commit_off (B g h : Nat) (used limit : Int) (v : Value) (l : List Rc) (next : Int) (r : Rt) (dur u : Int) (w : World) (k : NvS w B g h used limit v l next r) (h0 : 0 ≤ limit) (h1 : limit ≤ used) :
    Calls Try.prog 11 #[.pointer (some ⟨g, 0, none⟩), .int .u64 dur, .int .u64 u] w fun e w' => e = .panicked gone ∧ Below w.heap.size w w' := by
  have hb := fun o => (Below.refl w.heap.size w).alloc (Nat.le_refl _) o
  have hpc := fun o => (k.later (hb o)).c 0 (.pointer (some ⟨h, 0, none⟩)) rfl
  have HTK := Lib.hid (fun o => tick_off h used limit _ (k.later (hb o)).pw h0 h1)
  have HB := Lib.hid hb
  clear k hb
  go_enter Try.func11, Try.ntmps11
  go_wp2_with (first | (go_at_call 23; (with_reducible refine (HTK.out _).mono ?_); rintro e w1 ⟨rfl, n, hw1⟩; subst hw1) | fail "no")
  exact ⟨rfl, rfl, below_drewN (HB.out _) _⟩
set_option maxHeartbeats 3200000 in
theorem set_off (B g h : Nat) (used limit : Int) (v : Value) (l : List Rc) (next : Int) (r r' : Rt) (w : World) (k : NvS w B g h used limit v l next r) (h0 : 0 ≤ limit) (h1 : limit ≤ used) :
    Calls Try.prog 10 #[.pointer (some ⟨g, 0, none⟩), .agg (rta r')] w fun e w' => e = .panicked gone ∧ Below w.heap.size w w' := by
  have hb := fun o => (Below.refl w.heap.size w).alloc (Nat.le_refl _) o
  have hpc := fun o => (k.later (hb o)).c 0 (.pointer (some ⟨h, 0, none⟩)) rfl
  have HTK := Lib.hid (fun o => tick_off h used limit _ (k.later (hb o)).pw h0 h1)
  have HB := Lib.hid hb
  unfold rta
  clear k hb
  go_enter Try.func10, Try.ntmps10
  go_wp2_with (first | (go_at_call 23; (with_reducible refine (HTK.out _).mono ?_); rintro e w1 ⟨rfl, n, hw1⟩; subst hw1) | fail "no")
  exact ⟨rfl, rfl, below_drewN (HB.out _) _⟩
end Go.Proofs.Ytgcmfcdbgimnjaa
