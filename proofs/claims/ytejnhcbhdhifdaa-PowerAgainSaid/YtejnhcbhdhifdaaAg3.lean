/- The walk of PowerAgain. No further condition. -/
import Derived.Test.YtejnhcbhdhifdaaAg2
import Derived.Test.YtejnhcbhdhifdaaCou
namespace Go.Proofs.Ytejnhcbhdhifdaa
open Go.RowKit

theorem below_drewN {B : Nat} {a w : World} (h : Below B a w) (n : Nat) : Below B a (w.drewN n) := ⟨h.os, h.tape, h.output, h.size, h.block⟩

set_option maxHeartbeats 1600000 in
theorem powerAgain_walk (f m t : Nat) (w : World) (hf : f ≤ 255) (hm : m ≤ 255) (ht : t ≤ 255) :
    Calls Try.prog 7 #[.int .u8 f, .int .u8 m, .int .u8 t] w fun e w' => e = .returned (.bool true) ∧ Below w.heap.size w w' := by
  have hmf : ∀ (fn : Fn) (first cap : Array Value) (w : World), (Instr.makeFunc fn first cap).run Try.prog w = .ok (.func fn first cap) w := fun _ _ _ _ => rfl
  have hT := Whole.new w 5 #[.int .u8 t]
  have ha := awake_ok (w.alloc (.cells #[.int .u8 t] 5))
  go_enter Try.func7, Try.ntmps7
  go_wp2_with (first
    | (go_at_call 8; refine ha.mono ?_; rintro e w1 ⟨rfl, hB1⟩; have hT1 := hT.below hB1 (by simp); have hs1 := hB1.size; have hn := new_ok (f % 30 : Nat) w1; clear ha)
    | (go_at_call 9; refine hn.mono ?_; rintro e w2 ⟨rfl, hW2, hB2, hS2⟩; clear hn))
  simp at hs1
  have hp3 : Whole (w2.alloc (.cells #[.pointer (some ⟨w1.heap.size, 0, none⟩)] 24)) (w1.heap.size + 1) 24 #[.pointer (some ⟨w1.heap.size, 0, none⟩)] := by
    have := Whole.new w2 24 #[.pointer (some ⟨w1.heap.size, 0, none⟩)]
    rw [hS2] at this
    exact this
  have hW3 : Whole w2 w1.heap.size 38 #[.int .i64 0, .int .i64 ((f : Int) % 30)] := by simpa using hW2
  have hT3 := (hT1.below hB2 (by omega)).alloc (.cells #[.pointer (some ⟨w1.heap.size, 0, none⟩)] 24)
  have hBe : Below w.heap.size w (w2.alloc (.cells #[.pointer (some ⟨w1.heap.size, 0, none⟩)] 24)) :=
    ((((Below.refl _ w).alloc (Nat.le_refl _) (.cells #[.int .u8 t] 5)).trans (hB1.mono (by simp))).trans (hB2.mono (by omega))).alloc (by omega) _
  refine (run_plain_off 21 _ w.heap.size w1.heap.size ((f : Int) % 30) 0 ((f : Int) % 30) _ (hW3.alloc _) (by omega) (enter_21 _)
    (sixty_off w1.heap.size 0 ((f : Int) % 30) ⟨w1.heap.size + 1, 0, none⟩ _ ((hW3.alloc _).alloc _) (((hp3.alloc _).cell 0).trans rfl) (show w1.heap.size + 1 ≠ w1.heap.size by omega) (by omega) (by omega) (by omega) (by omega))).mono ?_
  rintro e w4 ⟨rfl, hB4, hg4, hk4⟩
  have hp4 := hk4 _ _ _ hp3 (by omega)
  have hT4 := hk4 _ _ _ hT3 (by omega)
  have hcp4 : w4.cell? ⟨w1.heap.size + 1, 0, none⟩ = some (.pointer (some ⟨w1.heap.size, 0, none⟩)) := (hp4.cell 0).trans rfl
  have hL := limit_some w1.heap.size ((f : Int) % 30) ((f : Int) % 30) ((m : Int) % 30) w4 hg4 (by omega) (by omega) (by omega) (by omega)
  go_wp2_with (go_at_call 19; refine hL.mono ?_; rintro e w5 ⟨rfl, hg5, hB5, hk5⟩)
  have hp5 := hk5 _ _ _ hp4 (by omega)
  have hT5 := hk5 _ _ _ hT4 (by omega)
  rcases Int.lt_or_le ((m : Int) % 30) ((t : Int) % 60) with hlt | hle
  · refine (run_plain_off 22 _ w.heap.size w1.heap.size ((f : Int) % 30 + (m : Int) % 30) ((f : Int) % 30) ((f : Int) % 30 + (m : Int) % 30) w5 hg5 (by omega) (enter_22 _)
      (tries_off w1.heap.size ((f : Int) % 30) ((f : Int) % 30 + (m : Int) % 30) t ⟨w.heap.size, 0, none⟩ ⟨w1.heap.size + 1, 0, none⟩ _ (hg5.alloc _) (((hp5.alloc _).cell 0).trans rfl) (show w1.heap.size + 1 ≠ w1.heap.size by omega) (((hT5.alloc _).cell 0).trans rfl) (show w.heap.size ≠ w1.heap.size by omega) ht (by omega) (by omega) (by omega) (by omega))).mono ?_
    rintro e w6 ⟨rfl, hB6, hg6, hk6⟩
    have hp6 := hk6 _ _ _ hp5 (by omega)
    have hT6 := hk6 _ _ _ hT5 (by omega)
    have hcp6 : w6.cell? ⟨w1.heap.size + 1, 0, none⟩ = some (.pointer (some ⟨w1.heap.size, 0, none⟩)) := (hp6.cell 0).trans rfl
    have hct6 : w6.cell? ⟨w.heap.size, 0, none⟩ = some (.int .u8 t) := (hT6.cell 0).trans rfl
    have hd1 : decide ((m : Int) % 30 < (t : Int) % 60) = true := by simp; omega
    have hmn : min ((m : Int) % 30) ((t : Int) % 60) = (m : Int) % 30 := by omega
    go_wp2
    go_quiet ((exact Calls.quiet_of_same (used_ok w1.heap.size _ _ _ (hg6.drewN _))))
    go_wp2
    go_ret
    exact ⟨rfl, below_drewN (((hBe.trans hB4).trans (hB5.mono (by omega))).trans hB6) _⟩
  · refine (run_plain_all 22 _ w.heap.size w1.heap.size ((f : Int) % 30 + (m : Int) % 30) ((f : Int) % 30) ((f : Int) % 30 + (t % 60 : Nat)) w5 hg5 (by omega) (enter_22 _)
      (tries_all w1.heap.size ((f : Int) % 30) ((f : Int) % 30 + (m : Int) % 30) t ⟨w.heap.size, 0, none⟩ ⟨w1.heap.size + 1, 0, none⟩ _ (hg5.alloc _) (((hp5.alloc _).cell 0).trans rfl) (show w1.heap.size + 1 ≠ w1.heap.size by omega) (((hT5.alloc _).cell 0).trans rfl) (show w.heap.size ≠ w1.heap.size by omega) ht (by omega) (by omega) (by omega))).mono ?_
    rintro e w6 ⟨rfl, hB6, hg6, hk6⟩
    have hp6 := hk6 _ _ _ hp5 (by omega)
    have hT6 := hk6 _ _ _ hT5 (by omega)
    have hcp6 : w6.cell? ⟨w1.heap.size + 1, 0, none⟩ = some (.pointer (some ⟨w1.heap.size, 0, none⟩)) := (hp6.cell 0).trans rfl
    have hct6 : w6.cell? ⟨w.heap.size, 0, none⟩ = some (.int .u8 t) := (hT6.cell 0).trans rfl
    have hg7 : Whole w6 w1.heap.size 38 #[.int .i64 ((f : Int) % 30 + (t : Int) % 60), .int .i64 ((f : Int) % 30 + (m : Int) % 30)] := by simpa using hg6
    have hd1 : decide ((m : Int) % 30 < (t : Int) % 60) = false := by simp; omega
    have hd4 : decide ((t : Int) % 60 ≤ (m : Int) % 30) = true := by simp; omega
    have hd5 : ¬ (m : Int) % 30 < (t : Int) % 60 := by omega
    have hmn : min ((m : Int) % 30) ((t : Int) % 60) = (t : Int) % 60 := by omega
    rcases Int.lt_or_eq_of_le hle with hl2 | heq
    all_goals
      go_wp2
      go_quiet ((exact Calls.quiet_of_same (used_ok w1.heap.size _ _ _ (hg7.drewN _))))
      go_wp2
      go_ret
      exact ⟨rfl, below_drewN (((hBe.trans hB4).trans (hB5.mono (by omega))).trans hB6) _⟩

theorem u8_nat (b : Int) (h : (Lit.int .u8 b).wf = true) : ∃ n : Nat, b = n ∧ n ≤ 255 := by
  have g2 : 0 ≤ b ∧ b ≤ 255 := by simp [Lit.wf, IntKind.min, IntKind.max, IntKind.bits, IntKind.signed] at h; omega
  obtain ⟨n, rfl⟩ := Int.eq_ofNat_of_zero_le g2.1
  exact ⟨n, rfl, by omega⟩

theorem powerAgain_true (a b c : Int) (w : World) (h1 : (Lit.int .u8 a).wf = true) (h2 : (Lit.int .u8 b).wf = true) (h3 : (Lit.int .u8 c).wf = true) :
    Calls Try.prog 7 #[.int .u8 a, .int .u8 b, .int .u8 c] w fun e w' => e = .returned (.bool true) ∧ Below w.heap.size w w' := by
  obtain ⟨n, rfl, g1⟩ := u8_nat a h1
  obtain ⟨m, rfl, g2⟩ := u8_nat b h2
  obtain ⟨t, rfl, g3⟩ := u8_nat c h3
  exact powerAgain_walk n m t w g1 g2 g3
end Go.Proofs.Ytejnhcbhdhifdaa
