/- The walks of Awake and TableOwn. No further condition. -/
import Derived.Test.YtcnjpheeebjjbaaTb4
namespace Go.Proofs.Ytcnjpheeebjjbaa
open Go.RowKit

set_option maxHeartbeats 1600000 in
theorem awake_ok (w : World) : Calls Try.prog 6 #[] w fun e w' => e = .returned (.bool true) ∧ Below w.heap.size w w' := by
  go_enter Try.func6, Try.ntmps6
  go_wp2_with (first
    | (go_at_call 7; refine (new_ok 2 _ (by decide)).mono ?_; rintro e w1 ⟨rfl, ht1, hb1, hz1⟩)
    | (go_at_call 10; refine (open_any (w.heap.size + 1) w.heap.size 0 [(0, 0, 0), (0, 0, 0)] _ ht1).mono ?_; rintro e w2 ⟨rfl, ht2⟩; have ht3 : Tab w2 (w.heap.size + 1) w.heap.size [(1, 0, 0), (0, 0, 0)] := ht2.tab)
    | (go_at_call 17; refine (first_ok (w.heap.size + 1) w.heap.size [(1, 0, 0), (0, 0, 0)] _ ht3).mono ?_; rintro e w3 ⟨rfl, hb3⟩; have ht4 := ht3.later hb3; have hff : firstFree [(1, 0, 0), (0, 0, 0)] 0 = 1 := by decide)
    | (go_at_call 15; refine (len_ok (w.heap.size + 1) _ 2 2 _ ht4.own).mono ?_; rintro e w4 ⟨rfl, rfl⟩))
  go_ret
  refine ⟨rfl, ?_⟩
  exact ((hb1.trans (Fr.toBelow ht2.fr hb1.size fun b hb e => by omega))).trans (hb3.mono (Nat.le_trans hb1.size ht2.fr.size))
set_option maxHeartbeats 1600000 in
theorem tableOwn_walk (n : Nat) (w : World) (hn : n ≤ 255) : Calls Try.prog 3 #[.int .u8 n] w fun e w' => e = .returned (.bool true) ∧ Below w.heap.size w w' := by
  have ha := awake_ok w
  have hnew := fun W => new_ok (1 + n % 9) W (by omega)
  rw [show ((1 + n % 9 : Nat) : Int) = 1 + (n : Int) % 9 by omega] at hnew
  have hlen : (List.replicate (1 + n % 9) ((0, 0, 0) : Sg)).length = 1 + n % 9 := List.length_replicate
  go_enter Try.func3, Try.ntmps3
  go_wp2_with (first
    | (go_at_call 6; refine ha.mono ?_; rintro e w1 ⟨rfl, hb1⟩)
    | (go_at_call 7; refine (hnew _).mono ?_; rintro e w2 ⟨rfl, ht2, hb2, hz2⟩)
    | (go_at_call 8; refine (all_ok _ _ _ _ ht2).mono ?_; rintro e w3 ⟨v, rfl, ho3, hb3⟩; obtain ⟨gb, cap, cur, rfl, hgb, hk3, hc3, -⟩ := own_block ho3 (by rw [hlen]; omega); rw [hlen] at hc3))
  have ht3 := ht2.later hb3
  have hB3 := (hb1.trans (hb2.mono hb1.size)).trans (hb3.mono (Nat.le_trans hb1.size hb2.size))
  have ng : w1.heap.size + 1 ≠ gb := by have := ht2.own.lt; omega
  have nh : w1.heap.size ≠ gb := by have := ht2.row.lt; omega
  have hlo : w.heap.size ≤ gb := by have := hb1.size; omega
  clear ht2 ho3 hb3 ha hnew
  go_loopw [17] (fun i wr => ∃ (k : Nat) (cur : Array Value), k ≤ 1 + n % 9 ∧ i = .int .i64 k ∧ Tab wr (w1.heap.size + 1) w1.heap.size (List.replicate (1 + n % 9) (0, 0, 0)) ∧ Blk wr gb 30 cur ∧ (1 + n % 9) * 3 ≤ cur.size ∧ Below w.heap.size w wr) (fun i _ => (1 + n % 9) - (intOf i).toNat)
  case atStart => exact ⟨0, cur, by omega, rfl, ht3, hk3, hc3, hB3⟩
  case round =>
    clear ht3 hk3 hB3 hc3 cur
    obtain ⟨k, cur, hk, rfl, ht, hkb, hc, hB⟩ := hrel
    by_cases hlt : k < 1 + n % 9
    · have hcell := (hkb.cell (k * 3 + 1)).trans (Array.getElem?_eq_getElem (by omega))
      have hfz := hkb.frozen (k * 3 + 1)
      have H1 := Lib.hid (show Tab (wr.setCell ⟨gb, k * 3 + 1, none⟩ (.int .i64 5)) (w1.heap.size + 1) w1.heap.size (List.replicate (1 + n % 9) (0, 0, 0)) from ht.fr ((Fr.refl (· = gb) wr).setCell (p := ⟨gb, k * 3 + 1, none⟩) (.inl rfl) _) ng nh)
      have H2 := Lib.hid (hkb.set_ (k * 3 + 1) (.int .i64 5))
      have H3 := Lib.hid (hB.setCell (p := ⟨gb, k * 3 + 1, none⟩) hlo (.int .i64 5))
      clear ht hkb hB
      go_wp2
      go_roundw
      case rel => exact ⟨k + 1, _, by omega, by go_num, H1.out, H2.out, by simpa using hc, H3.out⟩
      case measure => simp [intOf]; omega
    · have hat := at_yes (w1.heap.size + 1) w1.heap.size 0 _ (0, 0, 0) wr ht (by rw [List.getElem?_replicate]; simp)
      have hq := sg_eql (0, 0, 0) (0, 0, 0)
      obtain rfl : k = 1 + n % 9 := by omega
      clear ht hkb
      go_wp2_with (go_at_call 9; refine hat.mono ?_; rintro e w4 ⟨rfl, hb4⟩)
      go_ret
      exact ⟨rfl, hB.trans (hb4.mono hB.size)⟩
end Go.Proofs.Ytcnjpheeebjjbaa
