/- The walk of PowerLimits. No further condition. -/
import Derived.Test.YtejnhcbhdhifdaaPl
import Derived.Test.YtejnhcbhdhifdaaLim
import Derived.Test.YtejnhcbhdhifdaaCou
namespace Go.Proofs.Ytejnhcbhdhifdaa
open Go.RowKit

theorem block_of_add (a : Addr) (n : Nat) : (a.add n).block = a.block := by unfold Addr.add; split <;> rfl

/-- What stands at a round's head. -/
structure Head (w wr : World) (g pb : Nat) (u lim : Int) : Prop where
  below : Below w.heap.size w wr
  pow : Whole wr g 38 #[.int .i64 u, .int .i64 lim]
  pp : Whole wr pb 24 #[.pointer (some ⟨g, 0, none⟩)]

set_option maxHeartbeats 3200000 in
theorem powerLimits_walk (A0 A1 : Option Addr) (n0 c0 n1 c1 : Nat) (z0 : List Int) (w : World)
    (r0 : ∀ i, i < n0 → ∃ x, A0 = some x ∧ w.cell? (x.add i) = some (.int .i8 (z0.getD i 0)) ∧ -128 ≤ z0.getD i 0 ∧ z0.getD i 0 ≤ 127)
    (r1 : ∀ i, i < n1 → ∃ x, ∃ v : Nat, A1 = some x ∧ w.cell? (x.add i) = some (.int .u8 v) ∧ v ≤ 255) (h1 : n1 ≤ 9223372036854775807) :
    Calls Try.prog 6 #[.slice A0 n0 c0, .slice A1 n1 c1] w fun e w' => e = .returned (.bool true) ∧ Below w.heap.size w w' := by
  have hmf : ∀ (fn : Fn) (first cap : Array Value) (w : World), (Instr.makeFunc fn first cap).run Try.prog w = .ok (.func fn first cap) w := fun _ _ _ _ => rfl
  have ha := awake_ok w
  by_cases hlong : 20 < n0
  · go_enter Try.func6, Try.ntmps6
    go_wp2_with (go_at_call 8; refine ha.mono ?_; rintro e w1 ⟨rfl, hB1⟩)
    go_ret
    exact ⟨rfl, hB1⟩
  go_enter Try.func6, Try.ntmps6
  go_wp2_with (first
    | (go_at_call 8; refine ha.mono ?_; rintro e w1 ⟨rfl, hB1⟩; have hs1 := hB1.size; have hn := new_ok (-1) w1; clear ha)
    | (go_at_call 9; refine hn.mono ?_; rintro e w2 ⟨rfl, hW2, hB2, hS2⟩; clear hn)
    | fail)
  have hp3 : Whole (w2.alloc (.cells #[.pointer (some ⟨w1.heap.size, 0, none⟩)] 24)) (w1.heap.size + 1) 24 #[.pointer (some ⟨w1.heap.size, 0, none⟩)] := by
    have := Whole.new w2 24 #[.pointer (some ⟨w1.heap.size, 0, none⟩)]
    rw [hS2] at this
    exact this
  have hH : Head w (w2.alloc (.cells #[.pointer (some ⟨w1.heap.size, 0, none⟩)] 24)) w1.heap.size (w1.heap.size + 1) 0 (-1) :=
    ⟨(hB1.trans (hB2.mono (by omega))).alloc (by omega) _, hW2.alloc _, hp3⟩
  clear hW2 hp3 hB1 hB2
  obtain ⟨g, hg⟩ : ∃ g, g = w1.heap.size := ⟨_, rfl⟩
  rw [← hg] at hH hs1 hS2 ⊢
  have HG := Lib.hid hg
  clear hg
  go_loopw [6, 20] (fun d i wr => ∃ (k : Nat) (u lim : Int), k ≤ n0 ∧ i = .int .i64 k ∧ d = .int .i64 u ∧ 0 ≤ u ∧ u ≤ 40 * k ∧ Head w wr g (g + 1) u lim) (fun _ i _ => n0 - (intOf i).toNat)
  case atStart => exact ⟨0, 0, -1, by omega, rfl, rfl, by omega, by omega, hH⟩
  case round =>
    clear hH
    obtain ⟨k, u, lim, hk, rfl, rfl, hu1, hu2, hH⟩ := hrel
    by_cases hlt : k < n0
    · obtain ⟨x, rfl, hx, hx1, hx2⟩ := r0 k hlt
      have hxb := World.block_lt_of_cell? w _ hx
      have hcx : wr.cell? (x.add k) = some (.int .i8 (z0.getD k 0)) := (hH.below.cell hxb).trans hx
      have hlr := hH.below.size
      obtain ⟨m, hm⟩ : ∃ m, m = z0.getD k 0 := ⟨_, rfl⟩
      rw [← hm] at hcx hx1 hx2
      have HM := Lib.hid hm
      clear hm hx r0
      by_cases ht : k < n1
      · obtain ⟨y, v, rfl, hy, hv⟩ := r1 k ht
        have hyb := World.block_lt_of_cell? w _ hy
        have hcy : (wr.alloc (.cells #[.int .i64 0] 3)).cell? (y.add k) = some (.int .u8 v) := (World.cell?_alloc_lt wr _ _ (by omega)).trans ((hH.below.cell hyb).trans hy)
        clear hy r1
        have hN3 : Whole (wr.alloc (.cells #[.int .i64 ((v : Int) % 40)] 3)) wr.heap.size 3 #[.int .i64 ((v : Int) % 40)] := Whole.new wr 3 _
        have hn39 : ((v : Int) % 40) ≤ 39 := by omega
        have hn0 : 0 ≤ ((v : Int) % 40) := by omega
        have hcp : (wr.alloc (.cells #[.int .i64 ((v : Int) % 40)] 3)).cell? ⟨g + 1, 0, none⟩ = some (.pointer (some ⟨g, 0, none⟩)) := ((hH.pp.alloc _).cell 0).trans rfl
        have hg3 := hH.pow.alloc (.cells #[.int .i64 ((v : Int) % 40)] 3)
        have hp3 := hH.pp.alloc (.cells #[.int .i64 ((v : Int) % 40)] 3)
        have hgl := hH.pow.lt
        have hb3 := hH.below.alloc hlr (.cells #[.int .i64 ((v : Int) % 40)] 3)
        go_wp2_with fail
        rcases Int.lt_or_le m 0 with hneg | hpos
        · refine (limit_none g u lim m _ hg3 hneg).mono ?_
          rintro e w4 ⟨rfl, hg4, hB4, hk4⟩
          have hN4 := hk4 _ _ _ hN3 (by omega)
          have hp4 := hk4 _ _ _ hp3 (by omega)
          have hb4 := hb3.trans (hB4.mono (by omega))
          go_wp2_with fail
          refine (run_many w.heap.size g wr.heap.size (g + 1) u (-1) (v % 40) w4 hg4 (by simpa using hN4) hp4 (by omega) (by omega) (by omega) (by omega) (by omega)).mono ?_
          rintro e w5 ⟨r, a, hr, ha, rfl, hB5, hg5, hk5⟩
          have hN5 := hk5 _ _ _ hN4 (by omega)
          have hp5 := hk5 _ _ _ hp4 (by omega)
          have hb5 := hb4.trans hB5
          obtain rfl : r = false := by rw [hr]; simp
          obtain rfl : a = u + ((v : Int) % 40) := by rw [ha, if_neg (by omega)]; simp
          clear hr ha
          have hcn : w5.cell? ⟨wr.heap.size, 0, none⟩ = some (.int .i64 ((v : Int) % 40)) := (hN5.cell 0).trans rfl
          have hcp : w5.cell? ⟨g + 1, 0, none⟩ = some (.pointer (some ⟨g, 0, none⟩)) := (hp5.cell 0).trans rfl
          have hu5 := used_ok g _ _ w5 hg5
          have H5 := Lib.hid (show Head w w5 g (g + 1) (u + ((v : Int) % 40)) (-1) from ⟨hb5, hg5, hp5⟩)
          clear hN3 hg3 hp3 hb3 hN4 hp4 hb4 hN5 hp5 hb5 hg5 hg4 hk4 hk5 hB4 hB5
          go_wp2_with (go_at_call 13; refine hu5.mono ?_; rintro e w6 ⟨rfl, rfl⟩)
          go_roundw
          case rel => exact ⟨k + 1, _, _, by omega, by go_num, rfl, by omega, by omega, by first | exact H5.out | simpa using H5.out⟩
          case measure => simp [intOf]; omega
        · refine (limit_some g u lim m _ hg3 (by omega) (by omega) hpos (by omega)).mono ?_
          rintro e w4 ⟨rfl, hg4, hB4, hk4⟩
          have hN4 := hk4 _ _ _ hN3 (by omega)
          have hp4 := hk4 _ _ _ hp3 (by omega)
          have hb4 := hb3.trans (hB4.mono (by omega))
          go_wp2_with fail
          refine (run_many w.heap.size g wr.heap.size (g + 1) u (u + m) (v % 40) w4 hg4 (by simpa using hN4) hp4 (by omega) (by omega) (by omega) (by omega) (by omega)).mono ?_
          rintro e w5 ⟨r, a, hr, ha, rfl, hB5, hg5, hk5⟩
          have hN5 := hk5 _ _ _ hN4 (by omega)
          have hp5 := hk5 _ _ _ hp4 (by omega)
          have hb5 := hb4.trans hB5
          have hcn : w5.cell? ⟨wr.heap.size, 0, none⟩ = some (.int .i64 ((v : Int) % 40)) := (hN5.cell 0).trans rfl
          have hcp : w5.cell? ⟨g + 1, 0, none⟩ = some (.pointer (some ⟨g, 0, none⟩)) := (hp5.cell 0).trans rfl
          rcases Int.lt_or_le m ((v : Int) % 40) with hlt2 | hle2
          · obtain rfl : r = true := by rw [hr]; simp <;> omega
            obtain rfl : a = u + m := by rw [ha, if_pos (by omega)]; simp <;> omega
            clear hr ha
            have hu5 := used_ok g _ _ w5 hg5
            have H5 := Lib.hid (show Head w w5 g (g + 1) (u + m) (u + m) from ⟨hb5, hg5, hp5⟩)
            clear hN3 hg3 hp3 hb3 hN4 hp4 hb4 hN5 hp5 hb5 hg5 hg4 hk4 hk5 hB4 hB5
            go_wp2_with (go_at_call 13; refine hu5.mono ?_; rintro e w6 ⟨rfl, rfl⟩)
            go_roundw
            case rel => exact ⟨k + 1, _, _, by omega, by go_num, rfl, by omega, by omega, by first | exact H5.out | simpa using H5.out⟩
            case measure => simp [intOf]; omega
          · obtain rfl : r = false := by rw [hr]; simp <;> omega
            obtain rfl : a = u + ((v : Int) % 40) := by rw [ha, if_pos (by omega)]; simp <;> omega
            clear hr ha
            have hu5 := used_ok g _ _ w5 hg5
            have H5 := Lib.hid (show Head w w5 g (g + 1) (u + ((v : Int) % 40)) (u + m) from ⟨hb5, hg5, hp5⟩)
            clear hN3 hg3 hp3 hb3 hN4 hp4 hb4 hN5 hp5 hb5 hg5 hg4 hk4 hk5 hB4 hB5
            have H6 := Lib.hid (show u + ((v : Int) % 40) = u + m → Head w w5 g (g + 1) (u + m) (u + m) from fun e => by have := H5.out; rw [e] at this; exact this)
            rcases Int.lt_or_eq_of_le hle2 with hl3 | heq3
            all_goals
              go_wp2_with (go_at_call 13; refine hu5.mono ?_; rintro e w6 ⟨rfl, rfl⟩)
              go_roundw
              case rel => exact ⟨k + 1, _, u + m, by omega, by go_num, by first | rfl | (simp; omega), by omega, by omega, by first | exact H5.out | exact H6.out (by omega) | simpa using H5.out⟩
              case measure => simp [intOf]; omega
      · clear r1
        have hN3 : Whole (wr.alloc (.cells #[.int .i64 0] 3)) wr.heap.size 3 #[.int .i64 0] := Whole.new wr 3 _
        have hn39 : 0 ≤ 39 := by omega
        have hn0 : 0 ≤ 0 := by omega
        have hcp : (wr.alloc (.cells #[.int .i64 0] 3)).cell? ⟨g + 1, 0, none⟩ = some (.pointer (some ⟨g, 0, none⟩)) := ((hH.pp.alloc _).cell 0).trans rfl
        have hg3 := hH.pow.alloc (.cells #[.int .i64 0] 3)
        have hp3 := hH.pp.alloc (.cells #[.int .i64 0] 3)
        have hgl := hH.pow.lt
        have hb3 := hH.below.alloc hlr (.cells #[.int .i64 0] 3)
        go_wp2_with fail
        rcases Int.lt_or_le m 0 with hneg | hpos
        · refine (limit_none g u lim m _ hg3 hneg).mono ?_
          rintro e w4 ⟨rfl, hg4, hB4, hk4⟩
          have hN4 := hk4 _ _ _ hN3 (by omega)
          have hp4 := hk4 _ _ _ hp3 (by omega)
          have hb4 := hb3.trans (hB4.mono (by omega))
          go_wp2_with fail
          refine (run_many w.heap.size g wr.heap.size (g + 1) u (-1) 0 w4 hg4 (by simpa using hN4) hp4 (by omega) (by omega) (by omega) (by omega) (by omega)).mono ?_
          rintro e w5 ⟨r, a, hr, ha, rfl, hB5, hg5, hk5⟩
          have hN5 := hk5 _ _ _ hN4 (by omega)
          have hp5 := hk5 _ _ _ hp4 (by omega)
          have hb5 := hb4.trans hB5
          obtain rfl : r = false := by rw [hr]; simp
          obtain rfl : a = u + 0 := by rw [ha, if_neg (by omega)]; simp
          clear hr ha
          have hcn : w5.cell? ⟨wr.heap.size, 0, none⟩ = some (.int .i64 0) := (hN5.cell 0).trans rfl
          have hcp : w5.cell? ⟨g + 1, 0, none⟩ = some (.pointer (some ⟨g, 0, none⟩)) := (hp5.cell 0).trans rfl
          have hu5 := used_ok g _ _ w5 hg5
          have H5 := Lib.hid (show Head w w5 g (g + 1) (u + 0) (-1) from ⟨hb5, hg5, hp5⟩)
          clear hN3 hg3 hp3 hb3 hN4 hp4 hb4 hN5 hp5 hb5 hg5 hg4 hk4 hk5 hB4 hB5
          go_wp2_with (go_at_call 13; refine hu5.mono ?_; rintro e w6 ⟨rfl, rfl⟩)
          go_roundw
          case rel => exact ⟨k + 1, _, _, by omega, by go_num, rfl, by omega, by omega, by first | exact H5.out | simpa using H5.out⟩
          case measure => simp [intOf]; omega
        · refine (limit_some g u lim m _ hg3 (by omega) (by omega) hpos (by omega)).mono ?_
          rintro e w4 ⟨rfl, hg4, hB4, hk4⟩
          have hN4 := hk4 _ _ _ hN3 (by omega)
          have hp4 := hk4 _ _ _ hp3 (by omega)
          have hb4 := hb3.trans (hB4.mono (by omega))
          go_wp2_with fail
          refine (run_many w.heap.size g wr.heap.size (g + 1) u (u + m) 0 w4 hg4 (by simpa using hN4) hp4 (by omega) (by omega) (by omega) (by omega) (by omega)).mono ?_
          rintro e w5 ⟨r, a, hr, ha, rfl, hB5, hg5, hk5⟩
          have hN5 := hk5 _ _ _ hN4 (by omega)
          have hp5 := hk5 _ _ _ hp4 (by omega)
          have hb5 := hb4.trans hB5
          have hcn : w5.cell? ⟨wr.heap.size, 0, none⟩ = some (.int .i64 0) := (hN5.cell 0).trans rfl
          have hcp : w5.cell? ⟨g + 1, 0, none⟩ = some (.pointer (some ⟨g, 0, none⟩)) := (hp5.cell 0).trans rfl
          rcases Int.lt_or_le m 0 with hlt2 | hle2
          · obtain rfl : r = true := by rw [hr]; simp <;> omega
            obtain rfl : a = u + m := by rw [ha, if_pos (by omega)]; simp <;> omega
            clear hr ha
            have hu5 := used_ok g _ _ w5 hg5
            have H5 := Lib.hid (show Head w w5 g (g + 1) (u + m) (u + m) from ⟨hb5, hg5, hp5⟩)
            clear hN3 hg3 hp3 hb3 hN4 hp4 hb4 hN5 hp5 hb5 hg5 hg4 hk4 hk5 hB4 hB5
            go_wp2_with (go_at_call 13; refine hu5.mono ?_; rintro e w6 ⟨rfl, rfl⟩)
            go_roundw
            case rel => exact ⟨k + 1, _, _, by omega, by go_num, rfl, by omega, by omega, by first | exact H5.out | simpa using H5.out⟩
            case measure => simp [intOf]; omega
          · obtain rfl : r = false := by rw [hr]; simp <;> omega
            obtain rfl : a = u + 0 := by rw [ha, if_pos (by omega)]; simp <;> omega
            clear hr ha
            have hu5 := used_ok g _ _ w5 hg5
            have H5 := Lib.hid (show Head w w5 g (g + 1) (u + 0) (u + m) from ⟨hb5, hg5, hp5⟩)
            clear hN3 hg3 hp3 hb3 hN4 hp4 hb4 hN5 hp5 hb5 hg5 hg4 hk4 hk5 hB4 hB5
            have H6 := Lib.hid (show u + 0 = u + m → Head w w5 g (g + 1) (u + m) (u + m) from fun e => by have := H5.out; rw [e] at this; exact this)
            rcases Int.lt_or_eq_of_le hle2 with hl3 | heq3
            all_goals
              go_wp2_with (go_at_call 13; refine hu5.mono ?_; rintro e w6 ⟨rfl, rfl⟩)
              go_roundw
              case rel => exact ⟨k + 1, _, u + m, by omega, by go_num, by first | rfl | (simp; omega), by omega, by omega, by first | exact H5.out | exact H6.out (by omega) | simpa using H5.out⟩
              case measure => simp [intOf]; omega
    · have hB := hH.below
      clear hH r0 r1
      obtain rfl : k = n0 := by omega
      go_wp2
      go_ret
      exact ⟨rfl, hB⟩

theorem powerLimits_true (a0 : Option Addr) (len0 cap0 : Nat) (z0 : List Int) (a1 : Option Addr) (len1 cap1 : Nat) (z1 : List Int) (w : World)
    (w0 : (a0 = none ∧ len0 = 0 ∧ cap0 = 0 ∧ z0 = []) ∨ ∃ x, a0 = some x ∧ len0 ≤ cap0 ∧ cap0 ≤ maxLen ∧ z0.length = cap0 ∧ (∀ i, i < z0.length → w.cell? (x.add i) = some (.int .i8 (z0.getD i 0))) ∧ ∀ n ∈ z0, (Lit.int .i8 n).wf = true)
    (w1 : (a1 = none ∧ len1 = 0 ∧ cap1 = 0 ∧ z1 = []) ∨ ∃ x, a1 = some x ∧ len1 ≤ cap1 ∧ cap1 ≤ maxLen ∧ z1.length = cap1 ∧ (∀ i, i < z1.length → w.cell? (x.add i) = some (.int .u8 (z1.getD i 0))) ∧ ∀ n ∈ z1, (Lit.int .u8 n).wf = true) :
    Calls Try.prog 6 #[.slice a0 len0 cap0, .slice a1 len1 cap1] w fun e w' => e = .returned (.bool true) ∧ Below w.heap.size w w' := by
  refine powerLimits_walk a0 a1 len0 cap0 len1 cap1 z0 w ?_ ?_ ?_
  · intro i hi
    rcases w0 with ⟨_, h, _⟩ | ⟨x, hx, h1, _, h2, h3, h4⟩
    · omega
    · have hlt : i < z0.length := by omega
      have g := h4 (z0.getD i 0) (by rw [List.getD_eq_getElem?_getD, List.getElem?_eq_getElem hlt]; exact List.getElem_mem hlt)
      refine ⟨x, hx, h3 i hlt, ?_⟩
      simp [Lit.wf, IntKind.min, IntKind.max, IntKind.bits, IntKind.signed] at g ⊢ <;> omega
  · intro i hi
    rcases w1 with ⟨_, h, _⟩ | ⟨x, hx, h1, _, h2, h3, h4⟩
    · omega
    · have hlt : i < z1.length := by omega
      have g := h4 (z1.getD i 0) (by rw [List.getD_eq_getElem?_getD, List.getElem?_eq_getElem hlt]; exact List.getElem_mem hlt)
      have g2 : 0 ≤ z1.getD i 0 ∧ z1.getD i 0 ≤ 255 := by simp [Lit.wf, IntKind.min, IntKind.max, IntKind.bits, IntKind.signed] at g ⊢; omega
      obtain ⟨v, hv⟩ := Int.eq_ofNat_of_zero_le g2.1
      refine ⟨x, v, hx, ?_, by omega⟩
      rw [h3 i hlt, hv]
  · rcases w1 with ⟨_, h, _⟩ | ⟨x, hx, h1, h2, _⟩
    · omega
    · unfold maxLen at h2
      omega
end Go.Proofs.Ytejnhcbhdhifdaa
