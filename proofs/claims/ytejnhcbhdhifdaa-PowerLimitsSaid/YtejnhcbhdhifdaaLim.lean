/- The walk of Limit. No further condition. -/
import Derived.Test.YtejnhcbhdhifdaaAwa
namespace Go.Proofs.Ytejnhcbhdhifdaa
open Go.RowKit

set_option maxHeartbeats 800000 in
theorem limit_some (g : Nat) (u lim m : Int) (w : World) (hb : Whole w g 38 #[.int .i64 u, .int .i64 lim]) (hu : 0 ≤ u) (hu2 : u ≤ 4611686018427387000) (hm : 0 ≤ m) (hm2 : m ≤ 1000) :
    Calls Try.prog 19 #[.pointer (some ⟨g, 0, none⟩), .int .i64 m] w fun e w' => e = .returned (.tuple #[]) ∧ Whole w' g 38 #[.int .i64 u, .int .i64 (u + m)] ∧ Below g w w' ∧ (∀ b t cs, Whole w b t cs → b ≠ g → Whole w' b t cs) := by
  have hc0 : w.cell? ⟨g, 0, none⟩ = some (.int .i64 u) := (hb.cell 0).trans rfl
  have hc1 : w.cell? ⟨g, 1, none⟩ = some (.int .i64 lim) := (hb.cell 1).trans rfl
  have hf1 : w.frozen? ⟨g, 1, none⟩ = false := hb.frozen 1
  have hs := hb.set_ 1 (.int .i64 (-1))
  have hs2 := hs.set_ 1 (.int .i64 (u + m))
  have hc3 : (w.setCell ⟨g, 1, none⟩ (.int .i64 (-1))).cell? ⟨g, 0, none⟩ = some (.int .i64 u) := (hs.cell 0).trans rfl
  have hc4 : (w.setCell ⟨g, 1, none⟩ (.int .i64 (-1))).cell? ⟨g, 1, none⟩ = some (.int .i64 (-1)) := (hs.cell 1).trans rfl
  have hf4 : (w.setCell ⟨g, 1, none⟩ (.int .i64 (-1))).frozen? ⟨g, 1, none⟩ = false := hs.frozen 1
  have hB : Below g w ((w.setCell ⟨g, 1, none⟩ (.int .i64 (-1))).setCell ⟨g, 1, none⟩ (.int .i64 (u + m))) := ((Below.refl g w).setCell (Nat.le_refl _) _).setCell (Nat.le_refl _) _
  have hk : ∀ b t cs, Whole w b t cs → b ≠ g → Whole ((w.setCell ⟨g, 1, none⟩ (.int .i64 (-1))).setCell ⟨g, 1, none⟩ (.int .i64 (u + m))) b t cs := fun b t cs h hn => (h.past hn _).past hn _
  have hd : decide (0 ≤ m) = true := by simp; omega
  have HS := Lib.hid hs2
  have HB := Lib.hid hB
  have HK := Lib.hid hk
  clear hb hs hs2 hB hk
  go_enter Try.func19, Try.ntmps19
  go_wp2
  go_end0
  exact ⟨rfl, HS.out, HB.out, HK.out⟩
set_option maxHeartbeats 800000 in
theorem limit_none (g : Nat) (u lim m : Int) (w : World) (hb : Whole w g 38 #[.int .i64 u, .int .i64 lim]) (hm : m < 0) :
    Calls Try.prog 19 #[.pointer (some ⟨g, 0, none⟩), .int .i64 m] w fun e w' => e = .returned (.tuple #[]) ∧ Whole w' g 38 #[.int .i64 u, .int .i64 (-1)] ∧ Below g w w' ∧ (∀ b t cs, Whole w b t cs → b ≠ g → Whole w' b t cs) := by
  have hc1 : w.cell? ⟨g, 1, none⟩ = some (.int .i64 lim) := (hb.cell 1).trans rfl
  have hf1 : w.frozen? ⟨g, 1, none⟩ = false := hb.frozen 1
  have hs := hb.set_ 1 (.int .i64 (-1))
  have hB : Below g w (w.setCell ⟨g, 1, none⟩ (.int .i64 (-1))) := (Below.refl g w).setCell (Nat.le_refl _) _
  have hk : ∀ b t cs, Whole w b t cs → b ≠ g → Whole (w.setCell ⟨g, 1, none⟩ (.int .i64 (-1))) b t cs := fun b t cs h hn => h.past hn _
  have hd : decide (0 ≤ m) = false := by simp; omega
  have HS := Lib.hid hs
  have HB := Lib.hid hB
  have HK := Lib.hid hk
  clear hb hs hB hk
  go_enter Try.func19, Try.ntmps19
  go_wp2
  go_end0
  exact ⟨rfl, HS.out, HB.out, HK.out⟩
end Go.Proofs.Ytejnhcbhdhifdaa
