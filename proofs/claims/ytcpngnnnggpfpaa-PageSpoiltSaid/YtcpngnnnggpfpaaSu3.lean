/- The walks of the laws' own put and sealed. No further condition. -/
import Derived.Test.YtcpngnnnggpfpaaSu2
namespace Go.Proofs.Ytcpngnnnggpfpaa
open Go.RowKit
attribute [local go_sem ↓] Go.wp_at_zero Go.wp_at_succ
theorem div_pow_succ (n k : Nat) : n / 256 ^ k / 256 = n / 256 ^ (k + 1) := by rw [Nat.div_div_eq_div_mul, Nat.pow_succ]
set_option maxHeartbeats 3200000 in
theorem lput_ok (size n : Nat) (w : World) (h8 : size ≤ 8) (hn : n < 18446744073709551616) :
    Calls Try.prog 37 #[.int .i64 size, .int .u64 n] w fun e w' => ∃ r, e = .returned r ∧ w'.ownsRow w.heap.size 5 1 r (le size n).length (byv (le size n)) ∧ Below w.heap.size w w' := by
  obtain ⟨i0, hi0, hz0, hz1, hz2⟩ := info_parts (show (Try.prog.info? 5).map (fun i => (i.zero, i.size, i.bytes)) = some (some (.int .u8 0), 1, 1) by kernel_rfl)
  go_enter Try.func37, Try.ntmps37
  go_wp2
  go_loopw [1, 5, 7] (fun a r i wr => ∃ k : Nat, k ≤ size ∧ i = .int .i64 k ∧ a = .int .u64 (n / 256 ^ k : Nat) ∧ wr.ownsRow w.heap.size 5 1 r k (byv (le k n)) ∧ Below w.heap.size w wr) (fun _ _ i _ => size - (intOf i).toNat)
  case atStart => exact ⟨0, by omega, rfl, by simp, World.ownsRow_nil _ _ _ _, Below.refl _ _⟩
  case round =>
    obtain ⟨k, hk, rfl, rfl, hown, hB⟩ := hrel
    have HB := Lib.hid hB
    have HO := Lib.hid hown
    by_cases hlt : k < size
    · have hm : n / 256 ^ k < 18446744073709551616 := Nat.lt_of_le_of_lt (Nat.div_le_self _ _) hn
      have HD := Lib.hid (div_pow_succ n k)
      have hbt : byteAt n k = ((n / 256 ^ k : Nat) : Int) % 256 := rfl
      have HBT := Lib.hid hbt
      obtain ⟨m, hmm⟩ : ∃ m, m = n / 256 ^ k := ⟨_, rfl⟩
      rw [← hmm] at hm HD HBT ⊢
      clear hmm hown hB hbt
      obtain ⟨A1, c1, rfl, -, -⟩ := own_form HO.out
      go_wp2_with (at_builtin; refine wpList_append_any _ rfl _ _ 47 rfl w.heap.size 5 i0 (.int .u8 0) 1 1 Try.underlying47 hi0 hz0 hz1 hz2 rfl (by decide) _ k (byv (le k n)) rfl (HO.out.alloc _) (some ⟨wr.heap.size, 0, none⟩) 1 1 [.int .u8 (byteAt n k)] rfl rfl (by rw [HBT.out]; exact Rd.one _ _ _ rfl) (by intro u hu; simp at hu; subst hu; rfl) (by unfold maxLen; omega) (by omega) (by have := HB.out.size; simp; omega) ?_; intro v2 w2 hown2 hg2 hat2)
      go_roundw
      case rel =>
        refine ⟨k + 1, by omega, by go_num, by rw [← HD.out]; rfl, by rw [le_snoc, byv_app]; exact hown2, (HB.out.alloc HB.out.size _).grown hg2 (by have := HB.out.size; simp; omega) fun b hb => (HO.out.lt b hb).1⟩
      case measure => simp [intOf]; omega
    · obtain rfl : k = size := by omega
      clear hown hB
      go_wp2
      go_ret
      exact ⟨_, rfl, by rw [le_len]; exact HO.out, HB.out⟩
set_option maxHeartbeats 3200000 in
theorem sealed_ok (A : Option Addr) (c : Nat) (xs : List Int) (w : World) (hr : Rd w A (byv xs)) (hx : xs.length ≤ 1000000) (ho : Oct xs) :
    Calls Try.prog 17 #[.slice A xs.length c] w fun e w' => ∃ r, e = .returned r ∧ w'.ownsRow w.heap.size 5 1 r (sealL xs).length (byv (sealL xs)) ∧ Below w.heap.size w w' := by
  obtain ⟨i0, hi0, hz0, hz1, hz2⟩ := info_parts (show (Try.prog.info? 5).map (fun i => (i.zero, i.size, i.bytes)) = some (some (.int .u8 0), 1, 1) by kernel_rfl)
  have HR := Lib.hid hr
  have HO := Lib.hid ho
  have hl := cs_lt ho
  have h4 := le_len 4 (cs xs)
  clear hr ho
  go_enter Try.func17, Try.ntmps17
  go_wp2_with (first
    | (go_at_call 40; refine (cloneb_ok A c xs _ HR.out (by omega)).mono ?_; rintro e w1 ⟨r1, rfl, hown1, hB1⟩; have HO1 := Lib.hid hown1; have HB1 := Lib.hid hB1; have HR1 := Lib.hid (HR.out.later hB1); clear hown1 hB1)
    | (go_at_call 41; refine (rof_ok A c xs _ HR1.out (by omega) HO.out).mono ?_; rintro e w2 ⟨rfl, hw2⟩; subst w2)
    | (go_at_call 37; refine (lput_ok 4 (cs xs) _ (by omega) (by omega)).mono ?_; rintro e w3 ⟨r3, rfl, hown3, hB3⟩; obtain ⟨A3, c3, rfl, -, hrd3⟩ := own_form hown3; have HO3 := Lib.hid hown3; have HB3 := Lib.hid hB3; have HR3 := Lib.hid hrd3; have HO1 := Lib.hid (ownsRow_later HO1.out hB3); clear hown3 hB3 hrd3)
    | (at_builtin; refine wpList_append_any _ rfl _ _ 47 rfl w.heap.size 5 i0 (.int .u8 0) 1 1 Try.underlying47 hi0 hz0 hz1 hz2 rfl (by decide) _ xs.length (byv xs) rfl HO1.out A3 (le 4 (cs xs)).length c3 (byv (le 4 (cs xs))) rfl (by simp [byv_len]) HR3.out (byv_one _) (by unfold maxLen; omega) (by omega) (by have h1 := HB1.out.size; have h3 := HB3.out.size; omega) ?_; intro v4 w4 hown4 hg4 hat4))
  go_ret
  refine ⟨v4, rfl, ?_, (HB1.out.trans (HB3.out.mono HB1.out.size)).grown hg4 (by have h1 := HB1.out.size; have h3 := HB3.out.size; omega) fun b hb => (HO1.out.lt b hb).1⟩
  unfold sealL
  rw [List.length_append, byv_app]
  exact hown4
end Go.Proofs.Ytcpngnnnggpfpaa
