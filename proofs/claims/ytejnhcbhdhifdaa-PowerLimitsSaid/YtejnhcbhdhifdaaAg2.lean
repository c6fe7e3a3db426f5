/- The walk of PowerAgain: Run over its closures. No further condition. -/
import Derived.Test.YtejnhcbhdhifdaaAgn
import Derived.Test.YtejnhcbhdhifdaaLim
namespace Go.Proofs.Ytejnhcbhdhifdaa
open Go.RowKit

/-- Run over a closure that only ticks, and ends. -/
theorem run_plain_all (K : FuncId) (cap : Array Value) (B g : Nat) (lim u v : Int) (w : World) (hg : Whole w g 38 #[.int .i64 u, .int .i64 lim]) (hB1 : B ≤ g)
    (hen : ∀ W : World, (callFunc K cap).run Try.prog W = .ok (.enter K cap) W)
    (hk : Calls Try.prog K cap (w.alloc (.cells #[.bool false] 4)) fun e w' => e = .returned (.tuple #[]) ∧ Pw (w.alloc (.cells #[.bool false] 4)) w' g lim v) :
    Calls Try.prog 10 #[.func (.func K) #[] cap] w fun e w' =>
      e = .returned (.bool false) ∧ Below B w w' ∧ Whole w' g 38 #[.int .i64 v, .int .i64 lim] ∧ (∀ b t cs, Whole w b t cs → b ≠ g → Whole w' b t cs) := by
  have lg := hg.lt
  have Hn := Whole.new w 4 #[.bool false]
  refine (run_ends K cap w (fun w1 => Pw (w.alloc (.cells #[.bool false] 4)) w1 g lim v) hen ?_).mono ?_
  · refine hk.mono ?_
    rintro e w' ⟨rfl, hP⟩
    exact ⟨rfl, Hn.pw hP (by omega), hP⟩
  · rintro e w' ⟨rfl, w1, -, hP, rfl⟩
    refine ⟨rfl, ?_, hP.whole.past (show g ≠ w.heap.size by omega) _, fun b t cs h hne => ?_⟩
    · refine Below.setCell ?_ (by show B ≤ w.heap.size; omega) _
      refine Below.grown ((Below.refl B w).alloc (by omega) _) hP.grown (by simp; omega) ?_
      intro k hk
      injection hk with hk
      omega
    · have := h.lt
      exact ((h.alloc _).pw hP hne).past (show b ≠ w.heap.size by omega) _

theorem run_plain_off (K : FuncId) (cap : Array Value) (B g : Nat) (lim u v : Int) (w : World) (hg : Whole w g 38 #[.int .i64 u, .int .i64 lim]) (hB1 : B ≤ g)
    (hen : ∀ W : World, (callFunc K cap).run Try.prog W = .ok (.enter K cap) W)
    (hk : Calls Try.prog K cap (w.alloc (.cells #[.bool false] 4)) fun e w' => e = .panicked gone ∧ Pw (w.alloc (.cells #[.bool false] 4)) w' g lim v) :
    Calls Try.prog 10 #[.func (.func K) #[] cap] w fun e w' =>
      e = .returned (.bool true) ∧ Below B w w' ∧ Whole w' g 38 #[.int .i64 v, .int .i64 lim] ∧ (∀ b t cs, Whole w b t cs → b ≠ g → Whole w' b t cs) := by
  have lg := hg.lt
  have Hn := Whole.new w 4 #[.bool false]
  refine (run_gone K cap w (fun w1 => Pw (w.alloc (.cells #[.bool false] 4)) w1 g lim v) hen ?_).mono ?_
  · refine hk.mono ?_
    rintro e w' ⟨rfl, hP⟩
    exact ⟨rfl, Hn.pw hP (by omega), hP⟩
  · rintro e w' ⟨rfl, w1, -, hP, rfl⟩
    have hs := hP.size
    simp at hs
    refine ⟨rfl, ?_, (hP.whole.alloc _).past (show g ≠ w.heap.size by omega) _, fun b t cs h hne => ?_⟩
    · refine Below.setCell (Below.alloc ?_ (by omega) _) (by show B ≤ w.heap.size; omega) _
      refine Below.grown ((Below.refl B w).alloc (by omega) _) hP.grown (by simp; omega) ?_
      intro k hk
      injection hk with hk
      omega
    · have := h.lt
      exact (((h.alloc _).pw hP hne).alloc _).past (show b ≠ w.heap.size by omega) _

theorem enter_21 (cap : Array Value) : ∀ W : World, (callFunc 21 cap).run Try.prog W = .ok (.enter 21 cap) W := fun _ => by rfl
theorem enter_22 (cap : Array Value) : ∀ W : World, (callFunc 22 cap).run Try.prog W = .ok (.enter 22 cap) W := fun _ => by rfl
end Go.Proofs.Ytejnhcbhdhifdaa
