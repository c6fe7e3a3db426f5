/- The walk of PowerCounts' closure. No further condition. -/
import Derived.Test.YtejnhcbhdhifdaaRu2
namespace Go.Proofs.Ytejnhcbhdhifdaa
open Go.RowKit

theorem tick_can (g : Nat) (u lim : Int) (w : World) (hb : Whole w g 38 #[.int .i64 u, .int .i64 lim]) (hu : 0 ≤ u) (hu2 : u ≤ 4611686018427387904) (hl : lim < 0 ∨ u < lim) :
    Calls Try.prog 12 #[.pointer (some ⟨g, 0, none⟩)] w fun e w' => e = .returned (.tuple #[]) ∧ Pw w w' g lim (u + 1) := by
  rcases Int.lt_or_le lim 0 with h | h
  · exact tick_free g u lim w hb hu hu2 h
  · exact tick_on g u lim w hb hu hu2 h (by omega)

theorem Pw.frozen {w w1 : World} {g : Nat} {lim u : Int} (h : Pw w w1 g lim u) {a : Addr} {v : Value} (hc : w.cell? a = some v) (hz : w.frozen? a = false) (hn : a.block ≠ g) : w1.frozen? a = false := by
  have := h.grown.block a.block (World.block_lt_of_cell? w a hc) (fun e => hn (by injection e))
  rw [← hz]
  unfold World.frozen?
  rw [this]

set_option maxHeartbeats 800000 in
theorem counts_all (g : Nat) (u lim : Int) (t : Nat) (ta pa xa : Addr) (b : Bool) (w : World) (hb : Whole w g 38 #[.int .i64 u, .int .i64 lim])
    (hct : w.cell? ta = some (.int .u8 t)) (hcp : w.cell? pa = some (.pointer (some ⟨g, 0, none⟩))) (hcx : w.cell? xa = some (.bool b)) (hzx : w.frozen? xa = false)
    (ht : ta.block ≠ g) (hp : pa.block ≠ g) (hx : xa.block ≠ g) (ht2 : t ≤ 255)
    (hu : 0 ≤ u) (hu2 : u ≤ 4611686018427387000) (hl : lim < 0 ∨ u + t ≤ lim) :
    Calls Try.prog 11 #[.pointer (some ta), .pointer (some pa), .pointer (some xa)] w fun e w' => e = .returned (.tuple #[]) ∧ ∃ w1, Pw w w1 g lim (u + t) ∧ w' = w1.setCell xa (.bool true) := by
  have hr := Pw.refl hb
  go_enter Try.func11, Try.ntmps11
  go_wp2
  go_loopw [4] (fun v wr => ∃ i : Nat, v = .int .u8 i ∧ i ≤ t ∧ Pw w wr g lim (u + i)) (fun v _ => t - (intOf v).toNat)
  case atStart => exact ⟨0, by simp, by omega, by simpa using hr⟩
  case round =>
    obtain ⟨i, rfl, hi, hP⟩ := hrel
    have hct1 := hP.cell hct ht
    have hcp1 := hP.cell hcp hp
    have hcx1 := hP.cell hcx hx
    have hzx1 := hP.frozen hcx hzx hx
    rcases Nat.lt_or_ge i t with h | h
    · have hd : decide ((i : Int) < (t : Int)) = true := by simp; omega
      have hk := tick_can g (u + i) lim wr hP.whole (by omega) (by omega) (by omega)
      go_wp2_with (go_at_call 12; refine hk.mono ?_; rintro e w1 ⟨rfl, hQ⟩)
      go_roundw
      case rel => exact ⟨i + 1, by simp, by omega, by have := hP.trans hQ; rw [Int.add_assoc] at this; exact this⟩
      case measure => simp [intOf]; omega
    · have hd : decide ((i : Int) < (t : Int)) = false := by simp; omega
      have hit : i = t := by omega
      subst hit
      go_wp2
      go_end0
      exact ⟨rfl, wr, hP, rfl⟩

set_option maxHeartbeats 800000 in
theorem counts_off (g : Nat) (u lim : Int) (t : Nat) (ta pa xa : Addr) (w : World) (hb : Whole w g 38 #[.int .i64 u, .int .i64 lim])
    (hct : w.cell? ta = some (.int .u8 t)) (hcp : w.cell? pa = some (.pointer (some ⟨g, 0, none⟩)))
    (ht : ta.block ≠ g) (hp : pa.block ≠ g) (ht2 : t ≤ 255)
    (hu : 0 ≤ u) (hu2 : u ≤ 4611686018427387000) (hul : u ≤ lim) (hl : lim < u + t) :
    Calls Try.prog 11 #[.pointer (some ta), .pointer (some pa), .pointer (some xa)] w fun e w' => e = .panicked gone ∧ Pw w w' g lim lim := by
  have hr := Pw.refl hb
  go_enter Try.func11, Try.ntmps11
  go_wp2
  go_loopw [4] (fun v wr => ∃ i : Nat, v = .int .u8 i ∧ i ≤ t ∧ u + i ≤ lim ∧ Pw w wr g lim (u + i)) (fun v _ => t - (intOf v).toNat)
  case atStart => exact ⟨0, by simp, by omega, by omega, by simpa using hr⟩
  case round =>
    obtain ⟨i, rfl, hi, hil, hP⟩ := hrel
    have hct1 := hP.cell hct ht
    have hcp1 := hP.cell hcp hp
    have h : i < t := by omega
    have hd : decide ((i : Int) < (t : Int)) = true := by simp; omega
    rcases Int.lt_or_le (u + i) lim with hlt | hge
    · have hk := tick_can g (u + i) lim wr hP.whole (by omega) (by omega) (by omega)
      go_wp2_with (go_at_call 12; refine hk.mono ?_; rintro e w1 ⟨rfl, hQ⟩)
      go_roundw
      case rel => exact ⟨i + 1, by simp, by omega, by omega, by have := hP.trans hQ; rw [Int.add_assoc] at this; exact this⟩
      case measure => simp [intOf]; omega
    · have he : u + i = lim := by omega
      have hk := tick_off g (u + i) lim wr hP.whole (by omega) (by omega)
      go_wp2_with (go_at_call 12; refine hk.mono ?_; rintro e w1 ⟨rfl, hQ⟩)
      subst he
      exact ⟨rfl, rfl, hP.trans hQ⟩
end Go.Proofs.Ytejnhcbhdhifdaa
