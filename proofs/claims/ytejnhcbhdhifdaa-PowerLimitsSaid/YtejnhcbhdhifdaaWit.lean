/- The walks of PowerWithin's closures. No further condition. -/
import Derived.Test.YtejnhcbhdhifdaaAg2
namespace Go.Proofs.Ytejnhcbhdhifdaa
open Go.RowKit

set_option maxHeartbeats 800000 in
theorem inner_all (g : Nat) (u lim : Int) (t : Nat) (ta : Addr) (pa : Addr) (w : World) (hb : Whole w g 38 #[.int .i64 u, .int .i64 lim])
    (hcp : w.cell? pa = some (.pointer (some ⟨g, 0, none⟩))) (hp : pa.block ≠ g) (hct : w.cell? ta = some (.int .u8 t)) (ht : ta.block ≠ g) (ht2 : t ≤ 255)
    (hu : 0 ≤ u) (hu2 : u ≤ 4611686018427387000) (hl : lim < 0 ∨ u + (t % 40 : Nat) ≤ lim) :
    Calls Try.prog 18 #[.pointer (some ta), .pointer (some pa)] w fun e w' => e = .returned (.tuple #[]) ∧ Pw w w' g lim (u + (t % 40 : Nat)) := by
  have hr := Pw.refl hb
  go_enter Try.func18, Try.ntmps18
  go_wp2
  go_loopw [4] (fun v wr => ∃ i : Nat, v = .int .u8 i ∧ i ≤ (t % 40 : Nat) ∧ Pw w wr g lim (u + i)) (fun v _ => (t % 40 : Nat) - (intOf v).toNat)
  case atStart => exact ⟨0, by simp, by omega, by simpa using hr⟩
  case round =>
    obtain ⟨i, rfl, hi, hP⟩ := hrel
    have hct1 := hP.cell hct ht
    have hcp1 := hP.cell hcp hp
    rcases Nat.lt_or_ge i (t % 40 : Nat) with h | h
    · have hd : decide ((i : Int) < ((t % 40 : Nat) : Int)) = true := by simp; omega
      have hk := tick_can g (u + i) lim wr hP.whole (by omega) (by omega) (by omega)
      go_wp2_with (go_at_call 12; refine hk.mono ?_; rintro e w1 ⟨rfl, hQ⟩)
      go_roundw
      case rel => exact ⟨i + 1, by simp, by omega, by have := hP.trans hQ; rw [Int.add_assoc] at this; exact this⟩
      case measure => simp [intOf]; omega
    · have hd : decide ((i : Int) < ((t % 40 : Nat) : Int)) = false := by simp; omega
      have hit : i = (t % 40 : Nat) := by omega
      subst hit
      go_wp2
      go_end0
      exact ⟨rfl, hP⟩

set_option maxHeartbeats 800000 in
theorem inner_off (g : Nat) (u lim : Int) (t : Nat) (ta : Addr) (pa : Addr) (w : World) (hb : Whole w g 38 #[.int .i64 u, .int .i64 lim])
    (hcp : w.cell? pa = some (.pointer (some ⟨g, 0, none⟩))) (hp : pa.block ≠ g) (hct : w.cell? ta = some (.int .u8 t)) (ht : ta.block ≠ g) (ht2 : t ≤ 255)
    (hu : 0 ≤ u) (hu2 : u ≤ 4611686018427387000) (hul : u ≤ lim) (hl : lim < u + (t % 40 : Nat)) :
    Calls Try.prog 18 #[.pointer (some ta), .pointer (some pa)] w fun e w' => e = .panicked gone ∧ Pw w w' g lim lim := by
  have hr := Pw.refl hb
  go_enter Try.func18, Try.ntmps18
  go_wp2
  go_loopw [4] (fun v wr => ∃ i : Nat, v = .int .u8 i ∧ i ≤ (t % 40 : Nat) ∧ u + i ≤ lim ∧ Pw w wr g lim (u + i)) (fun v _ => (t % 40 : Nat) - (intOf v).toNat)
  case atStart => exact ⟨0, by simp, by omega, by omega, by simpa using hr⟩
  case round =>
    obtain ⟨i, rfl, hi, hil, hP⟩ := hrel
    have hct1 := hP.cell hct ht
    have hcp1 := hP.cell hcp hp
    have h : i < (t % 40 : Nat) := by omega
    have hd : decide ((i : Int) < ((t % 40 : Nat) : Int)) = true := by simp; omega
    rcases Int.lt_or_le (u + i) lim with hlt | hge
    · have hk := tick_can g (u + i) lim wr hP.whole (by omega) (by omega) (by omega)
      go_wp2_with (go_at_call 12; refine hk.mono ?_; rintro e w1 ⟨rfl, hQ⟩)
      go_roundw
      case rel => exact ⟨i + 1, by simp, by omega, by omega, by have := hP.trans hQ; rw [Int.add_assoc] at this; exact this⟩
      case measure => simp [intOf]; omega
    · have he : u + i = lim := by omega
      have hk := tick_off g (u + i) lim wr hP.whole (by omega) (by omega)
      go_wp2_with (go_at_call 12; refine hk.mono ?_; rintro e w1 ⟨rfl, hQ⟩)
      subst he
      exact ⟨rfl, rfl, hP.trans hQ⟩



theorem enter_18 (cap : Array Value) : ∀ W : World, (callFunc 18 cap).run Try.prog W = .ok (.enter 18 cap) W := fun _ => by rfl
theorem enter_17 (cap : Array Value) : ∀ W : World, (callFunc 17 cap).run Try.prog W = .ok (.enter 17 cap) W := fun _ => by rfl

/-- The inner run. -/
theorem run_inner (B g tb pb : Nat) (lim : Int) (t : Nat) (w : World) (hg : Whole w g 38 #[.int .i64 0, .int .i64 lim])
    (hT : Whole w tb 5 #[.int .u8 t]) (hp : Whole w pb 24 #[.pointer (some ⟨g, 0, none⟩)]) (h1 : tb ≠ g) (h2 : pb ≠ g) (ht : t ≤ 255) (hB : B ≤ g) (hl : 0 ≤ lim) :
    Calls Try.prog 10 #[.func (.func 18) #[] #[.pointer (some ⟨tb, 0, none⟩), .pointer (some ⟨pb, 0, none⟩)]] w fun e w' => ∃ (r : Bool) (a : Int),
      r = decide (lim < (t : Int) % 40) ∧ a = min lim ((t : Int) % 40) ∧
      e = .returned (.bool r) ∧ Below B w w' ∧ Whole w' g 38 #[.int .i64 a, .int .i64 lim] ∧ (∀ b t cs, Whole w b t cs → b ≠ g → Whole w' b t cs) := by
  rcases Int.lt_or_le lim ((t : Int) % 40) with h | h
  · refine (run_plain_off 18 _ B g lim 0 lim w hg hB (enter_18 _) (inner_off g 0 lim t ⟨tb, 0, none⟩ ⟨pb, 0, none⟩ _ (hg.alloc _) (((hp.alloc _).cell 0).trans rfl) h2 (((hT.alloc _).cell 0).trans rfl) h1 ht (by omega) (by omega) hl (by omega))).mono ?_
    rintro e w' ⟨rfl, h3, h4, h5⟩
    exact ⟨true, lim, by simp; omega, by omega, rfl, h3, h4, h5⟩
  · refine (run_plain_all 18 _ B g lim 0 (0 + (t % 40 : Nat)) w hg hB (enter_18 _) (inner_all g 0 lim t ⟨tb, 0, none⟩ ⟨pb, 0, none⟩ _ (hg.alloc _) (((hp.alloc _).cell 0).trans rfl) h2 (((hT.alloc _).cell 0).trans rfl) h1 ht (by omega) (by omega) (by omega))).mono ?_
    rintro e w' ⟨rfl, h3, h4, h5⟩
    exact ⟨false, (t : Int) % 40, by simp; omega, by omega, rfl, h3, by simpa using h4, h5⟩
end Go.Proofs.Ytejnhcbhdhifdaa
