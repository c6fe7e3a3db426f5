/- The walks of PowerAgain's closures and of Limit. No further condition. -/
import Derived.Test.YtejnhcbhdhifdaaAwa
namespace Go.Proofs.Ytejnhcbhdhifdaa
open Go.RowKit

set_option maxHeartbeats 800000 in
theorem sixty_all (g : Nat) (u lim : Int)  (pa : Addr) (w : World) (hb : Whole w g 38 #[.int .i64 u, .int .i64 lim])
    (hcp : w.cell? pa = some (.pointer (some ⟨g, 0, none⟩))) (hp : pa.block ≠ g) 
    (hu : 0 ≤ u) (hu2 : u ≤ 4611686018427387000) (hl : lim < 0 ∨ u + 60 ≤ lim) :
    Calls Try.prog 21 #[.pointer (some pa)] w fun e w' => e = .returned (.tuple #[]) ∧ Pw w w' g lim (u + 60) := by
  have hr := Pw.refl hb
  go_enter Try.func21, Try.ntmps21
  go_wp2
  go_loopw [1] (fun v wr => ∃ i : Nat, v = .int .i64 i ∧ i ≤ 60 ∧ Pw w wr g lim (u + i)) (fun v _ => 60 - (intOf v).toNat)
  case atStart => exact ⟨0, by simp, by omega, by simpa using hr⟩
  case round =>
    obtain ⟨i, rfl, hi, hP⟩ := hrel
    have hcp1 := hP.cell hcp hp
    rcases Nat.lt_or_ge i 60 with h | h
    · have hd : decide ((i : Int) < (60 : Int)) = true := by simp; omega
      have hk := tick_can g (u + i) lim wr hP.whole (by omega) (by omega) (by omega)
      go_wp2_with (go_at_call 12; refine hk.mono ?_; rintro e w1 ⟨rfl, hQ⟩)
      go_roundw
      case rel => exact ⟨i + 1, by simp, by omega, by have := hP.trans hQ; rw [Int.add_assoc] at this; exact this⟩
      case measure => simp [intOf]; omega
    · have hd : decide ((i : Int) < (60 : Int)) = false := by simp; omega
      have hit : i = 60 := by omega
      subst hit
      go_wp2
      go_end0
      exact ⟨rfl, hP⟩

set_option maxHeartbeats 800000 in
theorem sixty_off (g : Nat) (u lim : Int)  (pa : Addr) (w : World) (hb : Whole w g 38 #[.int .i64 u, .int .i64 lim])
    (hcp : w.cell? pa = some (.pointer (some ⟨g, 0, none⟩))) (hp : pa.block ≠ g) 
    (hu : 0 ≤ u) (hu2 : u ≤ 4611686018427387000) (hul : u ≤ lim) (hl : lim < u + 60) :
    Calls Try.prog 21 #[.pointer (some pa)] w fun e w' => e = .panicked gone ∧ Pw w w' g lim lim := by
  have hr := Pw.refl hb
  go_enter Try.func21, Try.ntmps21
  go_wp2
  go_loopw [1] (fun v wr => ∃ i : Nat, v = .int .i64 i ∧ i ≤ 60 ∧ u + i ≤ lim ∧ Pw w wr g lim (u + i)) (fun v _ => 60 - (intOf v).toNat)
  case atStart => exact ⟨0, by simp, by omega, by omega, by simpa using hr⟩
  case round =>
    obtain ⟨i, rfl, hi, hil, hP⟩ := hrel
    have hcp1 := hP.cell hcp hp
    have h : i < 60 := by omega
    have hd : decide ((i : Int) < (60 : Int)) = true := by simp; omega
    rcases Int.lt_or_le (u + i) lim with hlt | hge
    · have hk := tick_can g (u + i) lim wr hP.whole (by omega) (by omega) (by omega)
      go_wp2_with (go_at_call 12; refine hk.mono ?_; rintro e w1 ⟨rfl, hQ⟩)
      go_roundw
      case rel => exact ⟨i + 1, by simp, by omega, by omega, by have := hP.trans hQ; rw [Int.add_assoc] at this; exact this⟩
      case measure => simp [intOf]; omega
    · have he : u + i = lim := by omega
      have hk := tick_off g (u + i) lim wr hP.whole (by omega) (by omega)
      go_wp2_with (go_at_call 12; refine hk.mono ?_; rintro e w1 ⟨rfl, hQ⟩)
      subst he
      exact ⟨rfl, rfl, hP.trans hQ⟩

set_option maxHeartbeats 800000 in
theorem tries_all (g : Nat) (u lim : Int) (t : Nat) (ta : Addr) (pa : Addr) (w : World) (hb : Whole w g 38 #[.int .i64 u, .int .i64 lim])
    (hcp : w.cell? pa = some (.pointer (some ⟨g, 0, none⟩))) (hp : pa.block ≠ g) (hct : w.cell? ta = some (.int .u8 t)) (ht : ta.block ≠ g) (ht2 : t ≤ 255)
    (hu : 0 ≤ u) (hu2 : u ≤ 4611686018427387000) (hl : lim < 0 ∨ u + (t % 60 : Nat) ≤ lim) :
    Calls Try.prog 22 #[.pointer (some ta), .pointer (some pa)] w fun e w' => e = .returned (.tuple #[]) ∧ Pw w w' g lim (u + (t % 60 : Nat)) := by
  have hr := Pw.refl hb
  go_enter Try.func22, Try.ntmps22
  go_wp2
  go_loopw [4] (fun v wr => ∃ i : Nat, v = .int .u8 i ∧ i ≤ (t % 60 : Nat) ∧ Pw w wr g lim (u + i)) (fun v _ => (t % 60 : Nat) - (intOf v).toNat)
  case atStart => exact ⟨0, by simp, by omega, by simpa using hr⟩
  case round =>
    obtain ⟨i, rfl, hi, hP⟩ := hrel
    have hct1 := hP.cell hct ht
    have hcp1 := hP.cell hcp hp
    rcases Nat.lt_or_ge i (t % 60 : Nat) with h | h
    · have hd : decide ((i : Int) < ((t % 60 : Nat) : Int)) = true := by simp; omega
      have hk := tick_can g (u + i) lim wr hP.whole (by omega) (by omega) (by omega)
      go_wp2_with (go_at_call 12; refine hk.mono ?_; rintro e w1 ⟨rfl, hQ⟩)
      go_roundw
      case rel => exact ⟨i + 1, by simp, by omega, by have := hP.trans hQ; rw [Int.add_assoc] at this; exact this⟩
      case measure => simp [intOf]; omega
    · have hd : decide ((i : Int) < ((t % 60 : Nat) : Int)) = false := by simp; omega
      have hit : i = (t % 60 : Nat) := by omega
      subst hit
      go_wp2
      go_end0
      exact ⟨rfl, hP⟩

set_option maxHeartbeats 800000 in
theorem tries_off (g : Nat) (u lim : Int) (t : Nat) (ta : Addr) (pa : Addr) (w : World) (hb : Whole w g 38 #[.int .i64 u, .int .i64 lim])
    (hcp : w.cell? pa = some (.pointer (some ⟨g, 0, none⟩))) (hp : pa.block ≠ g) (hct : w.cell? ta = some (.int .u8 t)) (ht : ta.block ≠ g) (ht2 : t ≤ 255)
    (hu : 0 ≤ u) (hu2 : u ≤ 4611686018427387000) (hul : u ≤ lim) (hl : lim < u + (t % 60 : Nat)) :
    Calls Try.prog 22 #[.pointer (some ta), .pointer (some pa)] w fun e w' => e = .panicked gone ∧ Pw w w' g lim lim := by
  have hr := Pw.refl hb
  go_enter Try.func22, Try.ntmps22
  go_wp2
  go_loopw [4] (fun v wr => ∃ i : Nat, v = .int .u8 i ∧ i ≤ (t % 60 : Nat) ∧ u + i ≤ lim ∧ Pw w wr g lim (u + i)) (fun v _ => (t % 60 : Nat) - (intOf v).toNat)
  case atStart => exact ⟨0, by simp, by omega, by omega, by simpa using hr⟩
  case round =>
    obtain ⟨i, rfl, hi, hil, hP⟩ := hrel
    have hct1 := hP.cell hct ht
    have hcp1 := hP.cell hcp hp
    have h : i < (t % 60 : Nat) := by omega
    have hd : decide ((i : Int) < ((t % 60 : Nat) : Int)) = true := by simp; omega
    rcases Int.lt_or_le (u + i) lim with hlt | hge
    · have hk := tick_can g (u + i) lim wr hP.whole (by omega) (by omega) (by omega)
      go_wp2_with (go_at_call 12; refine hk.mono ?_; rintro e w1 ⟨rfl, hQ⟩)
      go_roundw
      case rel => exact ⟨i + 1, by simp, by omega, by omega, by have := hP.trans hQ; rw [Int.add_assoc] at this; exact this⟩
      case measure => simp [intOf]; omega
    · have he : u + i = lim := by omega
      have hk := tick_off g (u + i) lim wr hP.whole (by omega) (by omega)
      go_wp2_with (go_at_call 12; refine hk.mono ?_; rintro e w1 ⟨rfl, hQ⟩)
      subst he
      exact ⟨rfl, rfl, hP.trans hQ⟩

end Go.Proofs.Ytejnhcbhdhifdaa
