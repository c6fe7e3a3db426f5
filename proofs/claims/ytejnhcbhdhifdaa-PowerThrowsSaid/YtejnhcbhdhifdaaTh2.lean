/- The walk of PowerThrows. No further condition. -/
import Derived.Test.YtejnhcbhdhifdaaThr
namespace Go.Proofs.Ytejnhcbhdhifdaa
open Go.RowKit

set_option maxHeartbeats 1600000 in
theorem powerThrows_true (n : Int) (w : World) (_hn : (Lit.int .i64 n).wf = true) :
    Calls Try.prog 4 #[.int .i64 n] w fun e w' => e = .returned (.bool true) ∧ Below w.heap.size w w' := by
  have hmf : ∀ (fn : Fn) (first cap : Array Value) (w : World), (Instr.makeFunc fn first cap).run Try.prog w = .ok (.func fn first cap) w := fun _ _ _ _ => rfl
  have hT := Whole.new w 2 #[.int .i64 n]
  have h0 : Below w.heap.size w (w.alloc (.cells #[.int .i64 n] 2)) := (Below.refl _ w).alloc (Nat.le_refl _) _
  have ha := awake_ok (w.alloc (.cells #[.int .i64 n] 2))
  clear _hn
  go_enter Try.func4, Try.ntmps4
  go_wp2_with (first
    | (go_at_call 8; refine ha.mono ?_; rintro e w1 ⟨rfl, hB1⟩; have hT1 := hT.below hB1 (by simp); have hs1 := hB1.size; have h1 := h0.trans (hB1.mono (by simp)); have hk := thrown_ok n w.heap.size w1 hT1; clear ha)
    | (go_at_call 14; refine hk.mono ?_; rintro e w2 ⟨rfl, hB2⟩; have hT2 := hT1.below hB2 (by simp at hs1; omega); have hc2 : w2.cell? ⟨w.heap.size, 0, none⟩ = some (.int .i64 n) := (hT2.cell 0).trans rfl; have hr := run_nil w2; clear hk)
    | (go_at_call 10; refine hr.mono ?_; rintro e w3 ⟨rfl, hB3⟩))
  go_ret
  simp at hs1
  have hs2 := hB2.size
  exact ⟨rfl, (h1.trans (hB2.mono (by omega))).trans (hB3.mono (by omega))⟩
end Go.Proofs.Ytejnhcbhdhifdaa
