/- The walk of PowerCounts. No further condition. -/
import Derived.Test.YtejnhcbhdhifdaaAwa
namespace Go.Proofs.Ytejnhcbhdhifdaa
open Go.RowKit

theorem Whole.below {w w1 : World} {B b : Nat} {t : TypeId} {cs : Array Value} (h : Whole w b t cs) (k : Below B w w1) (hn : b < B) : Whole w1 b t cs := by
  have := k.block b hn
  unfold Whole at h ⊢
  rw [this]
  exact h

set_option maxHeartbeats 1600000 in
theorem powerCounts_walk (l : Int) (t : Nat) (w : World) (hl : -128 ≤ l ∧ l ≤ 127) (ht : t ≤ 255) :
    Calls Try.prog 3 #[.int .i8 l, .int .u8 t] w fun e w' => e = .returned (.bool true) ∧ Below w.heap.size w w' := by
  have hmf : ∀ (fn : Fn) (first cap : Array Value) (w : World), (Instr.makeFunc fn first cap).run Try.prog w = .ok (.func fn first cap) w := fun _ _ _ _ => rfl
  have hT := Whole.new w 5 #[.int .u8 t]
  have ha := awake_ok (w.alloc (.cells #[.int .u8 t] 5))
  go_enter Try.func3, Try.ntmps3
  go_wp2_with (first
    | (go_at_call 8; refine ha.mono ?_; rintro e w1 ⟨rfl, hB1⟩; have hT1 := hT.below hB1 (by simp); have hs1 := hB1.size; have hn := new_ok l w1; clear ha)
    | (go_at_call 9; refine hn.mono ?_; rintro e w2 ⟨rfl, hW2, hB2, hS2⟩))
  have hls := hS2
  simp at hs1
  have hp3 : Whole (w2.alloc (.cells #[.pointer (some ⟨w1.heap.size, 0, none⟩)] 24)) (w1.heap.size + 1) 24 #[.pointer (some ⟨w1.heap.size, 0, none⟩)] := by
    have := Whole.new w2 24 #[.pointer (some ⟨w1.heap.size, 0, none⟩)]
    rw [hS2] at this
    exact this
  have hx3 : Whole ((w2.alloc (.cells #[.pointer (some ⟨w1.heap.size, 0, none⟩)] 24)).alloc (.cells #[.bool false] 4)) (w1.heap.size + 1 + 1) 4 #[.bool false] := by
    have := Whole.new (w2.alloc (.cells #[.pointer (some ⟨w1.heap.size, 0, none⟩)] 24)) 4 #[.bool false]
    rw [World.size_alloc, hS2] at this
    exact this
  have hT2 := hT1.below hB2 (by omega)
  have hBe : Below w.heap.size w ((w2.alloc (.cells #[.pointer (some ⟨w1.heap.size, 0, none⟩)] 24)).alloc (.cells #[.bool false] 4)) := by
    have h0 : Below w.heap.size w w2 := (((Below.refl _ w).alloc (Nat.le_refl _) (.cells #[.int .u8 t] 5)).trans (hB1.mono (by simp))).trans (hB2.mono (by omega))
    exact (h0.alloc (by omega) _).alloc (by simp; omega) _
  have lim := Int.lt_or_le l 0
  rcases lim with hneg | hpos
  · refine (run_counts_all w.heap.size w1.heap.size w.heap.size (w1.heap.size + 1) (w1.heap.size + 1 + 1) l t false _ ((hW2.alloc _).alloc _) ((hT2.alloc _).alloc _) (hp3.alloc _) hx3 (by omega) (by omega) (by omega) (by omega) (by omega) ht (by omega) (by omega) (by omega)).mono ?_
    rintro e w4 ⟨rfl, hB4, hg4, hT4, hp4, hx4⟩
    have hd1 : decide (0 ≤ l) = false := by simp; omega
    have hd2 : decide ((t : Int) < (t : Int)) = false := by simp
    have hct : w4.cell? ⟨w.heap.size, 0, none⟩ = some (.int .u8 t) := (hT4.cell 0).trans rfl
    have hcp : w4.cell? ⟨w1.heap.size + 1, 0, none⟩ = some (.pointer (some ⟨w1.heap.size, 0, none⟩)) := (hp4.cell 0).trans rfl
    have hcx : w4.cell? ⟨w1.heap.size + 1 + 1, 0, none⟩ = some (.bool true) := (hx4.cell 0).trans rfl
    have hu := used_ok w1.heap.size t l w4 hg4
    go_wp2_with (go_at_call 13; refine hu.mono ?_; rintro e w5 ⟨rfl, rfl⟩)
    go_ret
    exact ⟨rfl, hBe.trans hB4⟩
  rcases Int.lt_or_le l t with hlt | hle
  · refine (run_counts_off w.heap.size w1.heap.size w.heap.size (w1.heap.size + 1) (w1.heap.size + 1 + 1) l t false _ ((hW2.alloc _).alloc _) ((hT2.alloc _).alloc _) (hp3.alloc _) hx3 (by omega) (by omega) (by omega) ht (by omega) hpos hlt).mono ?_
    rintro e w4 ⟨rfl, hB4, hg4, hT4, hp4, hx4⟩
    have hd1 : decide (0 ≤ l) = true := by simp; omega
    have hd2 : decide (l < (t : Int)) = true := by simp; omega
    have hd3 : decide ((t : Int) < l) = false := by simp; omega
    have hd4 : decide ((t : Int) ≤ l) = false := by simp; omega
    have hmn : min (t : Int) l = l := by omega
    have hct : w4.cell? ⟨w.heap.size, 0, none⟩ = some (.int .u8 t) := (hT4.cell 0).trans rfl
    have hcp : w4.cell? ⟨w1.heap.size + 1, 0, none⟩ = some (.pointer (some ⟨w1.heap.size, 0, none⟩)) := (hp4.cell 0).trans rfl
    have hcx : w4.cell? ⟨w1.heap.size + 1 + 1, 0, none⟩ = some (.bool false) := (hx4.cell 0).trans rfl
    have hu := used_ok w1.heap.size l l w4 hg4
    go_wp2_with (go_at_call 13; refine hu.mono ?_; rintro e w5 ⟨rfl, rfl⟩)
    go_ret
    exact ⟨rfl, hBe.trans hB4⟩
  · refine (run_counts_all w.heap.size w1.heap.size w.heap.size (w1.heap.size + 1) (w1.heap.size + 1 + 1) l t false _ ((hW2.alloc _).alloc _) ((hT2.alloc _).alloc _) (hp3.alloc _) hx3 (by omega) (by omega) (by omega) (by omega) (by omega) ht (by omega) (by omega) (by omega)).mono ?_
    rintro e w4 ⟨rfl, hB4, hg4, hT4, hp4, hx4⟩
    have hd1 : decide (0 ≤ l) = true := by simp; omega
    have hd2 : decide ((t : Int) < (t : Int)) = false := by simp
    have hd3 : decide (l < (t : Int)) = false := by simp; omega
    have hd4 : decide ((t : Int) ≤ l) = true := by simp; omega
    have hmn : min (t : Int) l = t := by omega
    have hct : w4.cell? ⟨w.heap.size, 0, none⟩ = some (.int .u8 t) := (hT4.cell 0).trans rfl
    have hcp : w4.cell? ⟨w1.heap.size + 1, 0, none⟩ = some (.pointer (some ⟨w1.heap.size, 0, none⟩)) := (hp4.cell 0).trans rfl
    have hcx : w4.cell? ⟨w1.heap.size + 1 + 1, 0, none⟩ = some (.bool true) := (hx4.cell 0).trans rfl
    have hu := used_ok w1.heap.size t l w4 hg4
    go_wp2_with (go_at_call 13; refine hu.mono ?_; rintro e w5 ⟨rfl, rfl⟩)
    go_ret
    exact ⟨rfl, hBe.trans hB4⟩

theorem powerCounts_true (a b : Int) (w : World) (h1 : (Lit.int .i8 a).wf = true) (h2 : (Lit.int .u8 b).wf = true) :
    Calls Try.prog 3 #[.int .i8 a, .int .u8 b] w fun e w' => e = .returned (.bool true) ∧ Below w.heap.size w w' := by
  have g1 : -128 ≤ a ∧ a ≤ 127 := by simp [Lit.wf, IntKind.min, IntKind.max, IntKind.bits, IntKind.signed] at h1; omega
  have g2 : 0 ≤ b ∧ b ≤ 255 := by simp [Lit.wf, IntKind.min, IntKind.max, IntKind.bits, IntKind.signed] at h2; omega
  obtain ⟨n, rfl⟩ := Int.eq_ofNat_of_zero_le g2.1
  exact powerCounts_walk a n w g1 (by omega)
end Go.Proofs.Ytejnhcbhdhifdaa
