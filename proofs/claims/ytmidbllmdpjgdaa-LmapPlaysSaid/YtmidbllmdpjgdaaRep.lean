/- The walk of slices.Repeat of one int. No further condition. -/
import Derived.Test.YtmidbllmdpjgdaaByt
import Derived.Test.YtmidbllmdpjgdaaCut
import Derived.Laws.Bits64b
import Derived.Laws.CopyOwn
namespace Go.Proofs.Ytmidbllmdpjgdaa
open Go.RowKit

set_option maxHeartbeats 1600000 in
theorem mul64_ok (n : Nat) (w : World) (hn : n ≤ 1000000) :
    Calls Try.prog 21 #[.int .u64 1, .int .u64 n] w fun e w' => e = .returned (.tuple #[.int .u64 0, .int .u64 n]) ∧ w' = w := by
  have h1 : bits .and .u64 1 4294967295 = 1 := by decide
  have h2 : bits .and .u64 (n : Int) 4294967295 = n := by
    have := bits_and_u64_nat n 4294967295 (by omega) (by decide)
    rw [show ((4294967295 : Nat) : Int) = 4294967295 from rfl] at this
    rw [this, show (4294967295 : Nat) = 2 ^ 32 - 1 from rfl, Nat.and_two_pow_sub_one_eq_mod, Nat.mod_eq_of_lt (by omega)]
  have h3 : (n : Int) / 4294967296 = 0 := by omega
  have h4 : IntKind.u64.wrap (n : Int) = n := IntWalk.u64_in _ (by omega)
  have h5 : bits .and .u64 0 4294967295 = 0 := by decide
  have h6 : IntKind.u64.wrap 0 = 0 := by decide
  go_enter Try.func21, Try.ntmps21
  go_wp2
  go_ret2
  exact ⟨rfl, rfl⟩
theorem mul_ok (n : Nat) (w : World) (hn : n ≤ 1000000) :
    Calls Try.prog 19 #[.int .u64 1, .int .u64 n] w fun e w' => e = .returned (.tuple #[.int .u64 0, .int .u64 n]) ∧ w' = w := by
  have HM := Lib.hid (mul64_ok n w hn)
  go_enter Try.func19, Try.ntmps19
  go_wp2_with (go_at_call 21; refine HM.out.mono ?_; rintro e w' ⟨rfl, rfl⟩)
  go_ret2
  exact ⟨rfl, rfl⟩
/-- A row of which the first i are x, the rest noughts. -/
def half (n i : Nat) (x : Int) : List Value := List.replicate i (.int .i64 x) ++ List.replicate (n - i) (.int .i64 0)
theorem half_len {n i : Nat} {x : Int} (h : i ≤ n) : (half n i x).length = n := by simp [half]; omega
theorem half_splice {n i k : Nat} {x : Int} (h : i + k ≤ n) : splice (half n i x) i (List.replicate k (.int .i64 x)) = half n (i + k) x := by
  unfold splice half
  rw [List.take_append_of_le_length (by simp), List.take_of_length_le (by simp), List.length_replicate, List.drop_append, List.drop_eq_nil_of_le (by simp), List.nil_append, List.length_replicate, List.drop_replicate, ← List.append_assoc, List.replicate_append_replicate]
  congr 2
  omega
set_option maxHeartbeats 3200000 in
theorem repeat_ok (A : Option Addr) (c n : Nat) (x : Int) (w : World) (ra : Rd w A [.int .i64 x]) (hn : n ≤ 1000) :
    Calls Try.prog 15 #[.slice A 1 c, .int .i64 n] w fun e w' => ∃ b, e = .returned (.slice (some ⟨b, 0, none⟩) n n) ∧ w.heap.size ≤ b ∧ Blk w' b 3 (half n n x).toArray ∧ Below w.heap.size w w' := by
  obtain ⟨i0, hi, hz0, hz1, hz2⟩ := info_parts (show (Try.prog.info? 3).map (fun i => (i.zero, i.size, i.bytes)) = some (some (.int .i64 0), 1, 8) by kernel_rfl)
  have hmk := fun W => run_make_zeros (P := Try.prog) 31 3 i0 _ 1 8 Try.underlying31 hi hz0 hz1 hz2 rfl .i64 .i64 n (by omega) (by omega) W
  have HM := Lib.hid (mul_ok n w (by omega))
  have HRA := Lib.hid ra
  have h4 : IntKind.u64.wrap (n : Int) = n := IntWalk.u64_in _ (by omega)
  have h5 : IntKind.i64.wrap (n : Int) = n := IntWalk.i64_in _ (by omega)
  clear ra
  rcases Nat.eq_zero_or_pos n with hn0 | hn1
  · subst hn0
    have hmk0 : ∀ W, (Instr.makeSlice 31 (.int .i64 0) (.int .i64 0)).run Try.prog W = .ok (.slice (some ⟨W.heap.size, 0, none⟩) 0 0) (W.alloc (.cells #[] 3)) := fun W => by simpa using hmk W
    clear hmk
    go_enter Try.func15, Try.ntmps15
    go_wp2_with (first
      | (go_at_call 19; refine HM.out.mono ?_; rintro e w' ⟨rfl, rfl⟩)
      | (refine wpList_copy_nothing rfl _ _ 31 31 rfl 3 Try.underlying31 (by kernel_rfl) _ _ _ _ _ _ rfl rfl rfl ?_))
    go_loopw [8] (fun i wr => i = .int .i64 0 ∧ wr = w'.alloc (.cells #[] 3)) (fun _ _ => 0)
    case atStart => exact ⟨rfl, rfl⟩
    case round =>
      obtain ⟨rfl, rfl⟩ := hrel
      go_wp2
      go_ret
      exact ⟨_, rfl, Nat.le_refl _, Blk.new _ _ _, (Below.refl _ _).alloc (Nat.le_refl _) _⟩
  · have hr : Blk (w.alloc (.cells (Array.replicate n (.int .i64 0)) 3)) w.heap.size 3 (half n 0 x).toArray := by
      have : (half n 0 x).toArray = Array.replicate n (.int .i64 0) := by
        unfold half
        rw [List.replicate_zero, List.nil_append, Nat.sub_zero, List.toArray_replicate]
      rw [this]
      exact Blk.new _ _ _
    have HB0 := Lib.hid hr
    have HRA1 := Lib.hid (HRA.out.alloc (.cells (Array.replicate n (.int .i64 0)) 3))
    have g1 : (0 : Int) < n := by omega
    clear hr
    go_enter Try.func15, Try.ntmps15
    go_wp2_with (first
      | (go_at_call 19; refine HM.out.mono ?_; rintro e w' ⟨rfl, rfl⟩)
      | (refine wpList_copy_splice rfl _ _ 31 31 rfl 3 Try.underlying31 (by kernel_rfl) _ _ _ _ _ _ rfl rfl w'.heap.size 0 (half n 0 x) 3 HB0.out [.int .i64 x] (by show 1 = min 1 n; omega) (fun _ => ⟨rfl, by obtain ⟨ad, e, _⟩ := HRA1.out 0 (.int .i64 x) rfl; exact ⟨ad, e, fun j v hv => by obtain ⟨ad', e', hc⟩ := HRA1.out j v hv; rw [e] at e'; injection e' with e'; subst e'; exact hc⟩⟩) (by rw [half_len (by omega)]; simp; omega) (by intro u hu; simp at hu; subst hu; rfl) w'.heap.size w' ((Below.refl _ _).alloc (Nat.le_refl _) _) (Nat.le_refl _) ?_; intro w2 HG2 hb2; have HB2 := Lib.hid hb2; clear hb2))
    have hsp : splice (half n 0 x) 0 [.int .i64 x] = half n 1 x := by
      have := half_splice (n := n) (i := 0) (k := 1) (x := x) (by omega)
      rw [Nat.zero_add] at this
      exact this
    have HB1 : Hid (Blk w2 w'.heap.size 3 (half n 1 x).toArray) := Lib.hid (by rw [← hsp]; exact HG2.out)
    clear hsp HG2 hmk
    go_loopw [8] (fun i wr => ∃ j : Nat, 1 ≤ j ∧ j ≤ n ∧ i = .int .i64 j ∧ Blk wr w'.heap.size 3 (half n j x).toArray ∧ Below w'.heap.size w' wr) (fun i _ => n - (intOf i).toNat)
    case atStart => exact ⟨1, by omega, by omega, rfl, HB1.out, HB2.out⟩
    case round =>
      obtain ⟨j, hj1, hjn, rfl, hb, hB⟩ := hrel
      have HBJ := Lib.hid hb
      have HBB := Lib.hid hB
      clear hb hB
      by_cases hlt : j < n
      · have hs1 := cut_hi_ 31 1 (by kernel_rfl) (fun _ => by kernel_rfl) (some ⟨w'.heap.size, 0, none⟩) n n j (j : Int) rfl (by omega)
        rw [if_neg (by omega), show ((some ⟨w'.heap.size, 0, none⟩ : Option Addr).map (·.add (j * 1))) = some ⟨w'.heap.size, j, none⟩ from by rw [Option.map_some, add_zero_addr]; simp] at hs1
        have hs2 := cut_lo_ 31 1 (by kernel_rfl) (fun _ => by kernel_rfl) (some ⟨w'.heap.size, 0, none⟩) n n j (j : Int) rfl (by omega)
        have g2 : (j : Int) < n := by omega
        go_wp2
        obtain ⟨m, hm⟩ : ∃ m, m = min j (n - j) := ⟨_, rfl⟩
        have hm1 : 1 ≤ m := by omega
        have hm2 : j + m ≤ n := by omega
        have hm3 : m ≤ j := by omega
        have hsz : (Try.prog.info? 3).map (·.size) = some 1 := by kernel_rfl
        have hsrc : ∀ q v, (List.replicate m (Value.int .i64 x))[q]? = some v → wr.drew.cell? ((⟨w'.heap.size, 0, none⟩ : Addr).add q) = some v := fun q v hv => by
          rw [List.getElem?_replicate] at hv
          split at hv
          · rename_i hq
            injection hv with hv
            subst hv
            rw [add_zero_addr, Nat.zero_add]
            refine HBJ.out.drew.at_ ?_
            unfold half
            rw [List.getElem?_toArray, List.getElem?_append_left (by simp; omega), List.getElem?_replicate, if_pos (by omega)]
          · cases hv
        have hfit : j + (List.replicate m (Value.int .i64 x)).length ≤ (half n j x).length := by rw [half_len (by omega), List.length_replicate]; omega
        have hone : ∀ u ∈ List.replicate m (Value.int .i64 x), u.oneCell' = true := by
          intro u hu
          obtain ⟨-, rfl⟩ := List.mem_replicate.1 hu
          rfl
        have HSP : Hid (splice (half n j x) j (List.replicate m (.int .i64 x)) = half n (j + m) x) := Lib.hid (half_splice (by omega))
        have hcl : (List.replicate m (Value.int .i64 x)).length = Nat.min j (n - j) := by rw [List.length_replicate]; exact hm
        clear hm
        have hjm : IntKind.i64.wrap ((j : Int) + (m : Int)) = ((j + m : Nat) : Int) := by
          rw [IntWalk.i64_in _ (by omega)]
          omega
        go_region_law
          ((refine step_copy_splice (by rfl) (.tmp 41) (.tmp 44) 31 31 (by rfl) 3 Try.underlying31 hsz (some ⟨w'.heap.size, j, none⟩) (some ⟨w'.heap.size, 0, none⟩) (n - j) (n - j) j n (by go_simp) (by go_simp) w'.heap.size j (half n j x) 3 HBJ.out.drew (List.replicate m (.int .i64 x)) hcl (fun _ => ⟨rfl, _, rfl, hsrc⟩) hfit hone w'.heap.size w' HBB.out.drew (Nat.le_refl _) ?_; intro w4 hg4 hb4; rw [List.length_replicate]))
        go_simp
        go_wp2
        go_roundw
        case rel => exact ⟨j + m, by omega, by omega, by go_num, by rw [← HSP.out]; exact hg4.out, hb4⟩
        case measure => simp [intOf]; omega
      · obtain rfl : j = n := by omega
        go_wp2
        go_ret
        exact ⟨_, rfl, Nat.le_refl _, HBJ.out, HBB.out⟩
end Go.Proofs.Ytmidbllmdpjgdaa
