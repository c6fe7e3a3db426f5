/- The walk of Awake. No further condition. -/
import Derived.Test.YtejnhcbhdhifdaaCn2
namespace Go.Proofs.Ytejnhcbhdhifdaa
open Go.RowKit

set_option maxHeartbeats 800000 in
theorem awake_in (g : Nat) (pa : Addr) (w : World) (hb : Whole w g 38 #[.int .i64 0, .int .i64 1])
    (hcp : w.cell? pa = some (.pointer (some ⟨g, 0, none⟩))) (hp : pa.block ≠ g) :
    Calls Try.prog 23 #[.pointer (some pa)] w fun e w' => e = .panicked gone ∧ Pw w w' g 1 1 := by
  have hk := tick_can g 0 1 w hb (by omega) (by omega) (by omega)
  go_enter Try.func23, Try.ntmps23
  go_wp2_with (go_at_call 12; refine hk.mono ?_; rintro e w1 ⟨rfl, hQ⟩; have hcp1 := hQ.cell hcp hp; have hk2 := tick_off g (0 + 1) 1 w1 hQ.whole (by omega) (by omega); clear hk)
  go_wp2_with (go_at_call 12; refine hk2.mono ?_; rintro e w2 ⟨rfl, hQ2⟩)
  exact ⟨rfl, rfl, hQ.trans hQ2⟩

theorem enter_awake (cap : Array Value) : ∀ W : World, (callFunc 23 cap).run Try.prog W = .ok (.enter 23 cap) W := fun _ => by rfl

set_option maxHeartbeats 800000 in
theorem run_awake (B g pb : Nat) (w : World) (hg : Whole w g 38 #[.int .i64 0, .int .i64 1])
    (hp : Whole w pb 24 #[.pointer (some ⟨g, 0, none⟩)]) (h2 : pb ≠ g) (hB1 : B ≤ g) :
    Calls Try.prog 10 #[.func (.func 23) #[] #[.pointer (some ⟨pb, 0, none⟩)]] w fun e w' =>
      e = .returned (.bool true) ∧ Below B w w' ∧ Whole w' g 38 #[.int .i64 1, .int .i64 1] ∧ Whole w' pb 24 #[.pointer (some ⟨g, 0, none⟩)] := by
  have lg := hg.lt
  have lp := hp.lt
  have Hg := hg.alloc (.cells #[.bool false] 4)
  have Hp := hp.alloc (.cells #[.bool false] 4)
  have Hn := Whole.new w 4 #[.bool false]
  refine (run_gone 23 _ w (fun w1 => Pw (w.alloc (.cells #[.bool false] 4)) w1 g 1 1) (enter_awake _) ?_).mono ?_
  · refine (awake_in g _ _ Hg ((Hp.cell 0).trans rfl) h2).mono ?_
    rintro e w' ⟨rfl, hP⟩
    exact ⟨rfl, Hn.pw hP (by omega), hP⟩
  · rintro e w' ⟨rfl, w1, -, hP, rfl⟩
    have n1 : g ≠ w.heap.size := by omega
    have n3 : pb ≠ w.heap.size := by omega
    have hs := hP.size
    simp at hs
    refine ⟨rfl, ?_, (hP.whole.alloc _).past n1 _, ((Hp.pw hP h2).alloc _).past n3 _⟩
    refine Below.setCell (Below.alloc ?_ (by omega) _) (by show B ≤ w.heap.size; omega) _
    refine Below.grown ((Below.refl B w).alloc (by omega) _) hP.grown (by simp; omega) ?_
    intro k hk
    injection hk with hk
    omega

set_option maxHeartbeats 800000 in
theorem new_ok (lim : Int) (w : World) :
    Calls Try.prog 9 #[.int .i64 lim] w fun e w' => e = .returned (.pointer (some ⟨w.heap.size, 0, none⟩)) ∧ Whole w' w.heap.size 38 #[.int .i64 0, .int .i64 lim] ∧ Below w.heap.size w w' ∧ w'.heap.size = w.heap.size + 1 := by
  go_enter Try.func9, Try.ntmps9
  go_wp2
  go_ret
  exact ⟨rfl, Whole.new w 38 _, (Below.refl _ w).alloc (Nat.le_refl _) _, by simp⟩

set_option maxHeartbeats 800000 in
theorem used_ok (g : Nat) (u lim : Int) (w : World) (hg : Whole w g 38 #[.int .i64 u, .int .i64 lim]) :
    Calls Try.prog 13 #[.pointer (some ⟨g, 0, none⟩)] w fun e w' => e = .returned (.int .i64 u) ∧ w' = w := by
  have hc0 : w.cell? ⟨g, 0, none⟩ = some (.int .i64 u) := (hg.cell 0).trans rfl
  go_enter Try.func13, Try.ntmps13
  go_wp2
  go_ret
  exact ⟨rfl, rfl⟩

set_option maxHeartbeats 800000 in
theorem awake_ok (w : World) :
    Calls Try.prog 8 #[] w fun e w' => e = .returned (.bool true) ∧ Below w.heap.size w w' := by
  have hmf : ∀ (fn : Fn) (first cap : Array Value) (w : World), (Instr.makeFunc fn first cap).run Try.prog w = .ok (.func fn first cap) w := fun _ _ _ _ => rfl
  go_enter Try.func8, Try.ntmps8
  go_wp2_with (first
    | (go_at_call 9; refine (new_ok 1 w).mono ?_; rintro e w1 ⟨rfl, hW, hB, hS⟩))
  have HP : Whole (w1.alloc (.cells #[.pointer (some ⟨w.heap.size, 0, none⟩)] 24)) (w.heap.size + 1) 24 #[.pointer (some ⟨w.heap.size, 0, none⟩)] := by
    have := Whole.new w1 24 #[.pointer (some ⟨w.heap.size, 0, none⟩)]
    rw [hS] at this
    exact this
  refine (run_awake w.heap.size w.heap.size (w.heap.size + 1) _ (hW.alloc _) HP (by omega) (Nat.le_refl _)).mono ?_
  rintro e w2 ⟨rfl, hB2, hg2, hp2⟩
  have hc2 : w2.cell? ⟨w.heap.size + 1, 0, none⟩ = some (.pointer (some ⟨w.heap.size, 0, none⟩)) := (hp2.cell 0).trans rfl
  have hu := used_ok w.heap.size 1 1 w2 hg2
  go_wp2_with (go_at_call 13; refine hu.mono ?_; rintro e w3 ⟨rfl, rfl⟩)
  go_ret
  exact ⟨rfl, (hB.alloc (by omega) _).trans hB2⟩
end Go.Proofs.Ytejnhcbhdhifdaa
