/- The walks of Take, Rest, the writer's Raw. No further condition. -/
import Derived.Test.YtcpngnnnggpfpaaPk3
import Derived.Laws.Bits64b
namespace Go.Proofs.Ytcpngnnnggpfpaa
open Go.RowKit
attribute [local go_sem ↓] Go.wp_at_zero Go.wp_at_succ

/-- A number out of its bytes. -/
def num : List Int → Int
  | [] => 0
  | b :: l => b + 256 * num l
theorem num_snoc (l : List Int) (x : Int) : num (l ++ [x]) = num l + x * 256 ^ l.length := by
  induction l with
  | nil => simp [num]
  | cons a l ih =>
    simp only [List.cons_append, num, ih, List.length_cons, Int.pow_succ]
    rw [Int.mul_add, Int.add_assoc, Int.mul_left_comm, Int.mul_comm (256 ^ l.length) 256, Int.mul_left_comm]
theorem num_in {l : List Int} (h : Oct l) : 0 ≤ num l ∧ num l < 256 ^ l.length := by
  induction l with
  | nil => simp [num]
  | cons a l ih =>
    have h1 := h a (by simp)
    have h2 := ih (fun x hx => h x (by simp [hx]))
    simp only [num, List.length_cons, Int.pow_succ]
    omega
theorem or_mul_ (a b i m : Nat) (hm : m = 2 ^ i) (h : a < m) : a ||| (b * m) = b * m + a := by
  subst hm
  rw [Nat.or_comm, ← Nat.shiftLeft_eq, Nat.shiftLeft_add_eq_or_of_lt h]
theorem or_num (l : List Int) (x : Int) (k : Nat) (hk : l.length = k) (hl : Oct l) (x0 : 0 ≤ x) (x1 : x < 256) (h8 : k < 8) :
    bits .or .u64 (num l) (IntKind.u64.wrap (IntKind.u64.wrap x * 2 ^ (8 * k))) = num (l ++ [x]) := by
  have h1 := num_in hl
  rw [num_snoc]
  rw [hk] at h1 ⊢
  obtain ⟨a, ha⟩ := Int.eq_ofNat_of_zero_le h1.1
  obtain ⟨b, rfl⟩ := Int.eq_ofNat_of_zero_le x0
  rw [ha] at h1 ⊢
  have e256 : (256 : Nat) ^ k = 2 ^ (8 * k) := by rw [Nat.pow_mul]
  have hp : (256 : Nat) ^ k ≤ 256 ^ 7 := Nat.pow_le_pow_right (by decide) (by omega)
  have hpos : 0 < (256 : Nat) ^ k := Nat.pow_pos (by decide)
  have e1 : IntKind.u64.wrap ((b : Nat) : Int) = b := by rw [IntKind.wrap_u64]; omega
  have e2 : ((b : Nat) : Int) * 2 ^ (8 * k) = ((b * 256 ^ k : Nat) : Int) := by rw [e256]; push_cast; rfl
  have hb : b * 256 ^ k < 18446744073709551616 := by
    have : b * 256 ^ k ≤ 255 * 256 ^ 7 := Nat.mul_le_mul (by omega) hp
    omega
  have ha2 : a < 256 ^ k := by
    have h2 : ((a : Nat) : Int) < ((256 ^ k : Nat) : Int) := by rw [Int.natCast_pow]; exact h1.2
    exact Int.ofNat_lt.1 h2
  have e3 : IntKind.u64.wrap ((b * 256 ^ k : Nat) : Int) = ((b * 256 ^ k : Nat) : Int) := by rw [IntKind.wrap_u64]; omega
  rw [e1, e2, e3, bits_or_u64_nat a (b * 256 ^ k) (by omega) hb, or_mul_ a b (8 * k) (256 ^ k) e256 ha2, Int.natCast_add, Int.natCast_mul, Int.natCast_pow]
  exact Int.add_comm _ _
set_option maxHeartbeats 3200000 in
theorem take_ok (g b : Nat) (xs : List Int) (n : Nat) (w : World) (hr : Re w g b xs false) (hx : xs.length ≤ 10000000) (hn : n ≤ xs.length) (ho : Oct xs) :
    Calls Try.prog 34 #[.pointer (some ⟨g, 0, none⟩), .int .i64 n] w fun e w' => e = .returned (.int .u64 (num ((xs.take n).take 8))) ∧ Re w' g b (xs.drop n) false ∧ Fr (· = g) w w' := by
  have hrr := rraw_ok g b xs n w hr hx hn
  have hyl : (xs.take n).length = n := by rw [List.length_take]; omega
  obtain ⟨ys, hys⟩ : ∃ ys, ys = xs.take n := ⟨_, rfl⟩
  have hyo : Oct ys := by rw [hys]; exact ho.take n
  rw [← hys] at hrr hyl ⊢
  have HRR := Lib.hid hrr
  clear hys hrr hr ho
  go_enter Try.func34, Try.ntmps34
  go_wp2_with (go_at_call 48; refine HRR.out.mono ?_; rintro e w1 ⟨r, rfl, hown, hre, hfr⟩; obtain ⟨A, c, rfl, hA, hrd⟩ := own_form hown)
  rw [hyl] at hown
  go_loopw [5, 6, 7, 12] (fun v _ _ i wr => wr = w1 ∧ ∃ k : Nat, k ≤ ys.length ∧ i = .int .i64 k ∧ v = .int .u64 (num ((ys.take k).take 8))) (fun _ _ _ i _ => ys.length - (intOf i).toNat)
  case atStart => exact ⟨rfl, 0, by omega, rfl, rfl⟩
  case round =>
    obtain ⟨rfl, k, hk, rfl, rfl⟩ := hrel
    by_cases hlt : k < ys.length
    · obtain ⟨x, hx1⟩ : ∃ x, ys[k]? = some x := ⟨_, List.getElem?_eq_getElem hlt⟩
      obtain ⟨ad, rfl, hc⟩ := hrd k (.int .u8 x) (by simp [byv, hx1])
      by_cases h8 : k < 8
      · have e8 : (ys.take k).take 8 = ys.take k := List.take_of_length_le (by rw [List.length_take]; omega)
        have e9 : (ys.take (k + 1)).take 8 = ys.take k ++ [x] := by rw [← take_snoc_pk hx1]; exact List.take_of_length_le (by rw [List.length_take]; omega)
        have hxo := hyo x (List.mem_of_getElem? hx1)
        have HOR := Lib.hid (or_num (ys.take k) x k (by rw [List.length_take]; omega) (hyo.take k) hxo.1 hxo.2 h8)
        have E9 := Lib.hid e9
        rw [e8]
        clear e8 e9 hx1 hxo
        go_wp2
        go_roundw
        case rel => exact ⟨trivial, k + 1, by omega, by go_num, by rw [E9.out, ← HOR.out]⟩
        case measure => simp [intOf]; omega
      · have e9 : (ys.take (k + 1)).take 8 = (ys.take k).take 8 := by rw [List.take_take, List.take_take]; congr 1; omega
        have E9 := Lib.hid e9
        clear e9 hx1
        go_wp2
        go_roundw
        case rel => exact ⟨trivial, k + 1, by omega, by go_num, by rw [E9.out]⟩
        case measure => simp [intOf]; omega
    · obtain rfl : k = ys.length := by omega
      rw [List.take_length]
      go_wp2
      go_ret
      exact ⟨rfl, hre, hfr⟩
set_option maxHeartbeats 3200000 in
theorem take_none (g b : Nat) (xs : List Int) (bad : Bool) (n : Int) (w : World) (hr : Re w g b xs bad) (hn : bad = true ∨ n < 0 ∨ xs.length < n) :
    Calls Try.prog 34 #[.pointer (some ⟨g, 0, none⟩), .int .i64 n] w fun e w' => e = .returned (.int .u64 0) ∧ Re w' g b xs true ∧ Fr (· = g) w w' := by
  have HRR := Lib.hid (rraw_none g b xs bad n w hr hn)
  clear hr hn
  go_enter Try.func34, Try.ntmps34
  go_wp2_with (go_at_call 48; refine HRR.out.mono ?_; rintro e w1 ⟨rfl, hre, hfr⟩)
  go_loopw [5, 12] (fun v i wr => v = .int .u64 0 ∧ i = .int .i64 0 ∧ wr = w1) (fun _ _ _ => 0)
  case atStart => exact ⟨rfl, rfl, rfl⟩
  case round =>
    obtain ⟨rfl, rfl, rfl⟩ := hrel
    go_wp2
    go_ret
    exact ⟨rfl, hre, hfr⟩
set_option maxHeartbeats 3200000 in
theorem rest_ok (g h : Nat) (xs : List Int) (w : World) (hr : Re w g h xs false) (hx : xs.length ≤ 10000000) :
    Calls Try.prog 36 #[.pointer (some ⟨g, 0, none⟩)] w fun e w' => ∃ r, e = .returned r ∧ w'.ownsRow w.heap.size 5 1 r xs.length (byv xs) ∧ Below w.heap.size w w' := by
  obtain ⟨i0, hi0, hz0, hz1, hz2⟩ := info_parts (show (Try.prog.info? 5).map (fun i => (i.zero, i.size, i.bytes)) = some (some (.int .u8 0), 1, 1) by kernel_rfl)
  obtain ⟨o, c, k1, k2, k3, k4⟩ := hr.form
  obtain ⟨hc0, hc1⟩ := k1.cells2
  obtain ⟨ha0, ha1⟩ := (k1.alloc (.cells #[] 5)).cells2
  have HR := Lib.hid (k2.alloc (.cells #[] 5))
  have HN := Lib.hid (Blk.new w 5 #[])
  clear k1 k2 hr
  go_enter Try.func36, Try.ntmps36
  go_wp2_with (at_builtin; refine wpList_append_any _ rfl _ _ 47 rfl w.heap.size 5 i0 _ 1 1 Try.underlying47 hi0 hz0 hz1 hz2 rfl (by decide) (.slice (some ⟨w.heap.size, 0, none⟩) 0 0) 0 [] rfl (ownsRow_empty _ _ _ _ _ 0 _ (Nat.le_refl _) HN.out (by unfold maxLen; omega) rfl) (some ⟨h, o, none⟩) xs.length c (byv xs) rfl (by simp [byv_len]) HR.out (byv_one xs) (by unfold maxLen; omega) (by omega) (by simp) ?_; intro v1 w1 hown1 hg1 hat1; rw [List.nil_append, Nat.zero_add] at hown1)
  go_ret
  exact ⟨v1, rfl, hown1, ((Below.refl w.heap.size w).alloc (Nat.le_refl _) (.cells #[] 5)).grown hg1 (by simp) fun b hb => by injection hb with hb; exact Nat.le_of_eq hb⟩
theorem rest_none (g h : Nat) (xs : List Int) (w : World) (hr : Re w g h xs true) :
    Calls Try.prog 36 #[.pointer (some ⟨g, 0, none⟩)] w fun e w' => e = .returned (.slice none 0 0) ∧ w' = w := by
  obtain ⟨o, c, k1, k2, k3, k4⟩ := hr.form
  obtain ⟨hc0, hc1⟩ := k1.cells2
  go_enter Try.func36, Try.ntmps36
  go_wp2
  go_ret
  exact ⟨rfl, rfl⟩
set_option maxHeartbeats 3200000 in
theorem wraw_ok (B g : Nat) (v : Value) (xs ys : List Int) (A : Option Addr) (c : Nat) (w : World) (hw : Wr w B g v xs) (hr : Rd w A (byv ys)) (hx : xs.length ≤ 1000000) (hy : ys.length ≤ 1000000) (hB : B ≤ w.heap.size) :
    Calls Try.prog 28 #[.pointer (some ⟨g, 0, none⟩), .slice A ys.length c] w fun e w' => e = .returned (.pointer (some ⟨g, 0, none⟩)) ∧ ∃ v', WrTo w w' B g v v' (xs ++ ys) := by
  obtain ⟨i0, hi0, hz0, hz1, hz2⟩ := info_parts (show (Try.prog.info? 5).map (fun i => (i.zero, i.size, i.bytes)) = some (some (.int .u8 0), 1, 1) by kernel_rfl)
  have hc := hw.own.cells1
  have hne : v.ownBlock ≠ some g := own_blk_ne hw.row hw.own (by decide)
  have HNE := Lib.hid hne
  have HW := Lib.hid hw
  have HR := Lib.hid hr
  clear hne hw hr
  go_enter Try.func28, Try.ntmps28
  go_wp2_with (at_builtin; refine wpList_append_any _ rfl _ _ 47 rfl B 5 i0 (.int .u8 0) 1 1 Try.underlying47 hi0 hz0 hz1 hz2 rfl (by decide) v xs.length (byv xs) rfl HW.out.row A ys.length c (byv ys) rfl (by simp [byv_len]) HR.out (byv_one _) (by unfold maxLen; omega) (by omega) hB ?_; intro v2 w2 hown2 hg2 hat2; obtain ⟨A2, c2, rfl, -, -⟩ := own_form hown2; have hb2 : Blk w2 g 61 #[v] := HW.out.own.grown hg2 (fun e => HNE.out e.symm); have hc2 := hb2.cells1; have hf2 := hb2.frozen 0)
  go_ret
  exact ⟨rfl, _, (WrTo.refl HW.out).push (Below.refl _ _) hg2 hown2 hat2⟩
end Go.Proofs.Ytcpngnnnggpfpaa
