/- The walk of PowerWithin. No further condition. -/
import Derived.Test.YtejnhcbhdhifdaaWi2
import Derived.Test.YtejnhcbhdhifdaaCou
namespace Go.Proofs.Ytejnhcbhdhifdaa
open Go.RowKit

theorem below_drewN {B : Nat} {a w : World} (h : Below B a w) (n : Nat) : Below B a (w.drewN n) := ⟨h.os, h.tape, h.output, h.size, h.block⟩

set_option maxHeartbeats 3200000 in
theorem powerWithin_walk (l t o : Nat) (w : World) (hl : l ≤ 255) (ht : t ≤ 255) (ho : o ≤ 255) :
    Calls Try.prog 5 #[.int .u8 l, .int .u8 t, .int .u8 o] w fun e w' => e = .returned (.bool true) ∧ Below w.heap.size w w' := by
  have hmf : ∀ (fn : Fn) (first cap : Array Value) (w : World), (Instr.makeFunc fn first cap).run Try.prog w = .ok (.func fn first cap) w := fun _ _ _ _ => rfl
  have hT := (Whole.new w 5 #[.int .u8 t]).alloc (.cells #[.int .u8 o] 5)
  have hO := Whole.new (w.alloc (.cells #[.int .u8 t] 5)) 5 #[.int .u8 o]
  rw [World.size_alloc] at hO
  have ha := awake_ok ((w.alloc (.cells #[.int .u8 t] 5)).alloc (.cells #[.int .u8 o] 5))
  go_enter Try.func5, Try.ntmps5
  go_wp2_with (first
    | (go_at_call 8; refine ha.mono ?_; rintro e w1 ⟨rfl, hB1⟩; have hT1 := hT.below hB1 (by simp; omega); have hO1 := hO.below hB1 (by simp); have hs1 := hB1.size; have hn := new_ok (l % 40 : Nat) w1; clear ha)
    | (go_at_call 9; refine hn.mono ?_; rintro e w2 ⟨rfl, hW2, hB2, hS2⟩; clear hn)
    | fail)
  simp at hs1
  have hp3 : Whole (w2.alloc (.cells #[.pointer (some ⟨w1.heap.size, 0, none⟩)] 24)) (w1.heap.size + 1) 24 #[.pointer (some ⟨w1.heap.size, 0, none⟩)] := by
    have := Whole.new w2 24 #[.pointer (some ⟨w1.heap.size, 0, none⟩)]
    rw [hS2] at this
    exact this
  have hi3 : Whole ((w2.alloc (.cells #[.pointer (some ⟨w1.heap.size, 0, none⟩)] 24)).alloc (.cells #[.bool false] 4)) (w1.heap.size + 1 + 1) 4 #[.bool false] := by
    have := Whole.new (w2.alloc (.cells #[.pointer (some ⟨w1.heap.size, 0, none⟩)] 24)) 4 #[.bool false]
    rw [World.size_alloc, hS2] at this
    exact this
  have hx3 : Whole (((w2.alloc (.cells #[.pointer (some ⟨w1.heap.size, 0, none⟩)] 24)).alloc (.cells #[.bool false] 4)).alloc (.cells #[.bool false] 4)) (w1.heap.size + 1 + 1 + 1) 4 #[.bool false] := by
    have := Whole.new ((w2.alloc (.cells #[.pointer (some ⟨w1.heap.size, 0, none⟩)] 24)).alloc (.cells #[.bool false] 4)) 4 #[.bool false]
    rw [World.size_alloc, World.size_alloc, hS2] at this
    exact this
  have hT2 := hT1.below hB2 (by omega)
  have hO2 := hO1.below hB2 (by omega)
  have hW3 : Whole w2 w1.heap.size 38 #[.int .i64 0, .int .i64 ((l : Int) % 40)] := by simpa using hW2
  have hBe : Below w.heap.size w (((w2.alloc (.cells #[.pointer (some ⟨w1.heap.size, 0, none⟩)] 24)).alloc (.cells #[.bool false] 4)).alloc (.cells #[.bool false] 4)) := by
    have h0 : Below w.heap.size w w2 := ((((Below.refl _ w).alloc (Nat.le_refl _) (.cells #[.int .u8 t] 5)).alloc (by simp) (.cells #[.int .u8 o] 5)).trans (hB1.mono (by simp; omega))).trans (hB2.mono (by omega))
    exact ((h0.alloc (by omega) _).alloc (by simp; omega) _).alloc (by simp; omega) _
  refine (run_outer w.heap.size w1.heap.size w.heap.size (w1.heap.size + 1) (w1.heap.size + 1 + 1) (w1.heap.size + 1 + 1 + 1) (w.heap.size + 1) ((l : Int) % 40) t o false false _ (((hW3.alloc _).alloc _).alloc _)
    (((hT2.alloc _).alloc _).alloc _) ((hp3.alloc _).alloc _) (hi3.alloc _) hx3 (((hO2.alloc _).alloc _).alloc _) (by omega) (by omega) (by omega) (by omega) (by simp; omega) ht ho (by omega) (by omega)).mono ?_
  rintro e w4 ⟨rfl, hU⟩
  have hp4 := hU.kept _ _ _ ((hp3.alloc _).alloc _) (by omega) (by omega) (by omega)
  have hT4 := hU.kept _ _ _ (((hT2.alloc _).alloc _).alloc _) (by omega) (by omega) (by omega)
  have hO4 := hU.kept _ _ _ (((hO2.alloc _).alloc _).alloc _) (by omega) (by omega) (by omega)
  have hcp4 : w4.cell? ⟨w1.heap.size + 1, 0, none⟩ = some (.pointer (some ⟨w1.heap.size, 0, none⟩)) := (hp4.cell 0).trans rfl
  have hct4 : w4.cell? ⟨w.heap.size, 0, none⟩ = some (.int .u8 t) := (hT4.cell 0).trans rfl
  have hco4 : w4.cell? ⟨w.heap.size + 1, 0, none⟩ = some (.int .u8 o) := (hO4.cell 0).trans rfl
  have hcx4 : w4.cell? ⟨w1.heap.size + 1 + 1 + 1, 0, none⟩ = some (.bool true) := (hU.past.cell 0).trans rfl
  have hci4 : w4.cell? ⟨w1.heap.size + 1 + 1, 0, none⟩ = some (.bool (decide ((l : Int) % 40 < (t : Int) % 40))) := (hU.inn.cell 0).trans rfl
  have hpw := hU.pow
  have hfin := hBe.trans hU.below
  have HF := Lib.hid hfin
  clear hfin hU hp4 hT4 hO4 hBe hW3 hW2 hT2 hO2 hT1 hO1 hT hO hp3 hi3 hx3 hB1 hB2
  have g1 : 0 ≤ (l : Int) % 40 := by omega
  have g2 : 0 ≤ (t : Int) % 40 := by omega
  have g3 : 0 ≤ (o : Int) % 40 := by omega
  rcases Int.lt_or_le ((l : Int) % 40) ((t : Int) % 40) with hlt | hle
  · have e1 : min ((l : Int) % 40) ((t : Int) % 40) = (l : Int) % 40 := by omega
    have e2 : min ((l : Int) % 40) ((l : Int) % 40 + (o : Int) % 40) = (l : Int) % 40 := by omega
    rw [e1, e2] at hpw
    rw [e1]
    rw [decide_eq_true hlt] at hci4
    have hd1 : decide ((l : Int) % 40 < (t : Int) % 40) = true := decide_eq_true hlt
    rcases Int.lt_or_eq_of_le g3 with hl2 | heq
    all_goals
      go_wp2
      go_quiet ((exact Calls.quiet_of_same (used_ok w1.heap.size _ _ _ (hpw.drewN _))))
      go_wp2
      go_ret
      exact ⟨rfl, below_drewN HF.out _⟩
  · have e1 : min ((l : Int) % 40) ((t : Int) % 40) = (t : Int) % 40 := by omega
    rw [e1] at hpw
    rw [e1]
    rw [decide_eq_false (show ¬ (l : Int) % 40 < (t : Int) % 40 by omega)] at hci4
    have hd1 : decide ((l : Int) % 40 < (t : Int) % 40) = false := decide_eq_false (by omega)
    rcases Int.lt_or_le ((l : Int) % 40) ((t : Int) % 40 + (o : Int) % 40) with hk | hk
    · have e2 : min ((l : Int) % 40) ((t : Int) % 40 + (o : Int) % 40) = (l : Int) % 40 := by omega
      rw [e2] at hpw
      rcases Int.lt_or_eq_of_le hle with hl2 | heq
      all_goals
        go_wp2
        go_quiet ((exact Calls.quiet_of_same (used_ok w1.heap.size _ _ _ (hpw.drewN _))))
        go_wp2
        go_ret
        exact ⟨rfl, below_drewN HF.out _⟩
    · have e2 : min ((l : Int) % 40) ((t : Int) % 40 + (o : Int) % 40) = (t : Int) % 40 + (o : Int) % 40 := by omega
      rw [e2] at hpw
      have hd2 : decide ((l : Int) % 40 < (t : Int) % 40 + (o : Int) % 40) = false := decide_eq_false (by omega)
      rcases Int.lt_or_eq_of_le hle with hl2 | heq
      · rcases Int.lt_or_eq_of_le hk with hl3 | heq3
        all_goals
          go_wp2
          go_quiet ((exact Calls.quiet_of_same (used_ok w1.heap.size _ _ _ (hpw.drewN _))))
          go_wp2
          go_ret
          exact ⟨rfl, below_drewN HF.out _⟩
      · have h0 : (o : Int) % 40 = 0 := by omega
        rw [h0, Int.add_zero] at hpw
        go_wp2
        go_quiet ((exact Calls.quiet_of_same (used_ok w1.heap.size _ _ _ (hpw.drewN _))))
        go_wp2
        go_ret
        exact ⟨rfl, below_drewN HF.out _⟩

theorem powerWithin_true (a b c : Int) (w : World) (h1 : (Lit.int .u8 a).wf = true) (h2 : (Lit.int .u8 b).wf = true) (h3 : (Lit.int .u8 c).wf = true) :
    Calls Try.prog 5 #[.int .u8 a, .int .u8 b, .int .u8 c] w fun e w' => e = .returned (.bool true) ∧ Below w.heap.size w w' := by
  have u8n : ∀ b : Int, (Lit.int .u8 b).wf = true → ∃ n : Nat, b = n ∧ n ≤ 255 := by
    intro b h
    have g2 : 0 ≤ b ∧ b ≤ 255 := by simp [Lit.wf, IntKind.min, IntKind.max, IntKind.bits, IntKind.signed] at h; omega
    obtain ⟨n, rfl⟩ := Int.eq_ofNat_of_zero_le g2.1
    exact ⟨n, rfl, by omega⟩
  obtain ⟨n, rfl, g1⟩ := u8n a h1
  obtain ⟨m, rfl, g2⟩ := u8n b h2
  obtain ⟨t, rfl, g3⟩ := u8n c h3
  exact powerWithin_walk n m t w g1 g2 g3
end Go.Proofs.Ytejnhcbhdhifdaa
