/- The walks of PowerLimits' closure. No further condition. -/
import Derived.Test.YtejnhcbhdhifdaaWi2
namespace Go.Proofs.Ytejnhcbhdhifdaa
open Go.RowKit

set_option maxHeartbeats 800000 in
theorem many_all (g : Nat) (u lim : Int) (n : Nat) (ta : Addr) (pa : Addr) (w : World) (hb : Whole w g 38 #[.int .i64 u, .int .i64 lim])
    (hcp : w.cell? pa = some (.pointer (some ⟨g, 0, none⟩))) (hp : pa.block ≠ g) (hct : w.cell? ta = some (.int .i64 n)) (ht : ta.block ≠ g) (hn : n ≤ 39)
    (hu : 0 ≤ u) (hu2 : u ≤ 4611686018427387000) (hl : lim < 0 ∨ u + n ≤ lim) :
    Calls Try.prog 20 #[.pointer (some ta), .pointer (some pa)] w fun e w' => e = .returned (.tuple #[]) ∧ Pw w w' g lim (u + n) := by
  have hr := Pw.refl hb
  go_enter Try.func20, Try.ntmps20
  go_wp2
  go_loopw [3] (fun v wr => ∃ i : Nat, v = .int .i64 i ∧ i ≤ n ∧ Pw w wr g lim (u + i)) (fun v _ => n - (intOf v).toNat)
  case atStart => exact ⟨0, by simp, by omega, by simpa using hr⟩
  case round =>
    obtain ⟨i, rfl, hi, hP⟩ := hrel
    have hct1 := hP.cell hct ht
    have hcp1 := hP.cell hcp hp
    rcases Nat.lt_or_ge i n with h | h
    · have hk := tick_can g (u + i) lim wr hP.whole (by omega) (by omega) (by omega)
      go_wp2_with (go_at_call 12; refine hk.mono ?_; rintro e w1 ⟨rfl, hQ⟩)
      go_roundw
      case rel => exact ⟨i + 1, by simp, by omega, by have := hP.trans hQ; rw [Int.add_assoc] at this; exact this⟩
      case measure => simp [intOf]; omega
    · have hit : i = n := by omega
      subst hit
      go_wp2
      go_end0
      exact ⟨rfl, hP⟩

set_option maxHeartbeats 800000 in
theorem many_off (g : Nat) (u lim : Int) (n : Nat) (ta : Addr) (pa : Addr) (w : World) (hb : Whole w g 38 #[.int .i64 u, .int .i64 lim])
    (hcp : w.cell? pa = some (.pointer (some ⟨g, 0, none⟩))) (hp : pa.block ≠ g) (hct : w.cell? ta = some (.int .i64 n)) (ht : ta.block ≠ g) (hn : n ≤ 39)
    (hu : 0 ≤ u) (hu2 : u ≤ 4611686018427387000) (hul : u ≤ lim) (hl : lim < u + n) :
    Calls Try.prog 20 #[.pointer (some ta), .pointer (some pa)] w fun e w' => e = .panicked gone ∧ Pw w w' g lim lim := by
  have hr := Pw.refl hb
  go_enter Try.func20, Try.ntmps20
  go_wp2
  go_loopw [3] (fun v wr => ∃ i : Nat, v = .int .i64 i ∧ i ≤ n ∧ u + i ≤ lim ∧ Pw w wr g lim (u + i)) (fun v _ => n - (intOf v).toNat)
  case atStart => exact ⟨0, by simp, by omega, by omega, by simpa using hr⟩
  case round =>
    obtain ⟨i, rfl, hi, hil, hP⟩ := hrel
    have hct1 := hP.cell hct ht
    have hcp1 := hP.cell hcp hp
    have h : i < n := by omega
    rcases Int.lt_or_le (u + i) lim with hlt | hge
    · have hk := tick_can g (u + i) lim wr hP.whole (by omega) (by omega) (by omega)
      go_wp2_with (go_at_call 12; refine hk.mono ?_; rintro e w1 ⟨rfl, hQ⟩)
      go_roundw
      case rel => exact ⟨i + 1, by simp, by omega, by omega, by have := hP.trans hQ; rw [Int.add_assoc] at this; exact this⟩
      case measure => simp [intOf]; omega
    · have he : u + i = lim := by omega
      have hk := tick_off g (u + i) lim wr hP.whole (by omega) (by omega)
      go_wp2_with (go_at_call 12; refine hk.mono ?_; rintro e w1 ⟨rfl, hQ⟩)
      subst he
      exact ⟨rfl, rfl, hP.trans hQ⟩

theorem enter_20 (cap : Array Value) : ∀ W : World, (callFunc 20 cap).run Try.prog W = .ok (.enter 20 cap) W := fun _ => by rfl

/-- A run of so many operations. -/
theorem run_many (B g nb pb : Nat) (u lim : Int) (n : Nat) (w : World) (hg : Whole w g 38 #[.int .i64 u, .int .i64 lim])
    (hN : Whole w nb 3 #[.int .i64 n]) (hp : Whole w pb 24 #[.pointer (some ⟨g, 0, none⟩)]) (hn : n ≤ 39) (hB : B ≤ g) (hu : 0 ≤ u) (hu2 : u ≤ 4611686018427387000) (hl : lim < 0 ∨ u ≤ lim) :
    Calls Try.prog 10 #[.func (.func 20) #[] #[.pointer (some ⟨nb, 0, none⟩), .pointer (some ⟨pb, 0, none⟩)]] w fun e w' => ∃ (r : Bool) (a : Int),
      r = decide (0 ≤ lim ∧ lim < u + n) ∧ a = (if 0 ≤ lim then min lim (u + n) else u + n) ∧
      e = .returned (.bool r) ∧ Below B w w' ∧ Whole w' g 38 #[.int .i64 a, .int .i64 lim] ∧ (∀ b t cs, Whole w b t cs → b ≠ g → Whole w' b t cs) := by
  have h1 := hN.ne_ hg (by decide)
  have h2 := hp.ne_ hg (by decide)
  by_cases h : 0 ≤ lim ∧ lim < u + n
  · refine (run_plain_off 20 _ B g lim u lim w hg hB (enter_20 _) (many_off g u lim n ⟨nb, 0, none⟩ ⟨pb, 0, none⟩ _ (hg.alloc _) (((hp.alloc _).cell 0).trans rfl) h2 (((hN.alloc _).cell 0).trans rfl) h1 hn hu hu2 (by omega) (by omega))).mono ?_
    rintro e w' ⟨rfl, h3, h4, h5⟩
    exact ⟨true, lim, by simp; omega, by rw [if_pos h.1]; omega, rfl, h3, h4, h5⟩
  · refine (run_plain_all 20 _ B g lim u (u + n) w hg hB (enter_20 _) (many_all g u lim n ⟨nb, 0, none⟩ ⟨pb, 0, none⟩ _ (hg.alloc _) (((hp.alloc _).cell 0).trans rfl) h2 (((hN.alloc _).cell 0).trans rfl) h1 hn hu hu2 (by omega))).mono ?_
    rintro e w' ⟨rfl, h3, h4, h5⟩
    exact ⟨false, u + n, by simp; omega, by split <;> omega, rfl, h3, h4, h5⟩
end Go.Proofs.Ytejnhcbhdhifdaa
