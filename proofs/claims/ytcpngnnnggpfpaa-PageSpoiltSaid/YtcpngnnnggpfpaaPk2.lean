/- The walks of pack's other functions. No further condition. -/
import Derived.Test.YtcpngnnnggpfpaaPk
namespace Go.Proofs.Ytcpngnnnggpfpaa
open Go.RowKit
attribute [local go_sem ↓] Go.wp_at_zero Go.wp_at_succ

theorem Rd.later_ {w w' : World} {A : Option Addr} {xs : List Value} (k : Rd w A xs) (hb : Below w.heap.size w w') : Rd w' A xs := k.later hb
theorem put_none (g : Nat) (n : Int) (size : Int) (w : World) (hs : size < 1 ∨ 8 < size) :
    Calls Try.prog 27 #[.pointer (some ⟨g, 0, none⟩), .int .i64 size, .int .u64 n] w fun e w' => e = .returned (.pointer (some ⟨g, 0, none⟩)) ∧ w' = w := by
  go_enter Try.func27, Try.ntmps27
  go_wp2
  all_goals first
    | (go_ret; exact ⟨rfl, rfl⟩)
    | (exfalso; omega)
/-- Padded, if it is shorter, to so many. -/
def pad (xs : List Int) (least : Nat) : List Int := xs ++ List.replicate (least - xs.length) 0
theorem pad_long {xs : List Int} {least : Nat} (h : least ≤ xs.length) : pad xs least = xs := by simp [pad, Nat.sub_eq_zero_of_le h]
set_option maxRecDepth 100000 in
set_option maxHeartbeats 3200000 in
theorem bytes_ok (B g : Nat) (v : Value) (xs : List Int) (least : Int) (w : World) (hw : Wr w B g v xs) (hx : xs.length ≤ 10000000) (hl : least ≤ 1048576) :
    Calls Try.prog 31 #[.pointer (some ⟨g, 0, none⟩), .int .i64 least] w fun e w' => ∃ r, e = .returned r ∧ w'.ownsRow w.heap.size 5 1 r (pad xs least.toNat).length (byv (pad xs least.toNat)) ∧ Below w.heap.size w w' := by
  obtain ⟨i0, hi0, hz0, hz1, hz2⟩ := info_parts (show (Try.prog.info? 5).map (fun i => (i.zero, i.size, i.bytes)) = some (some (.int .u8 0), 1, 1) by kernel_rfl)
  obtain ⟨A, c, rfl, -, hrd⟩ := own_form hw.row
  have hc := hw.own.cells1
  have hca := (hw.own.alloc (.cells #[] 5)).cells1
  have HR := Lib.hid (hrd.alloc (.cells #[] 5))
  have HN := Lib.hid (Blk.new w 5 #[])
  clear hw hrd
  go_enter Try.func31, Try.ntmps31
  go_wp2_with (at_builtin; refine wpList_append_any _ rfl _ _ 47 rfl w.heap.size 5 i0 _ 1 1 Try.underlying47 hi0 hz0 hz1 hz2 rfl (by decide) (.slice (some ⟨w.heap.size, 0, none⟩) 0 0) 0 [] rfl (ownsRow_empty _ _ _ _ _ 0 _ (Nat.le_refl _) HN.out (by unfold maxLen; omega) rfl) A xs.length c (byv xs) rfl (by simp [byv_len]) HR.out (byv_one xs) (by unfold maxLen; omega) (by omega) (by simp) ?_; intro v1 w1 hown1 hg1 hat1)
  have hB1 : Below w.heap.size w w1 := ((Below.refl w.heap.size w).alloc (Nat.le_refl _) (.cells #[] 5)).grown hg1 (by simp) fun b hb => by injection hb with hb; exact Nat.le_of_eq hb
  rw [List.nil_append, Nat.zero_add] at hown1
  have HO1 := Lib.hid hown1
  have HB1 := Lib.hid hB1
  obtain ⟨m, hm⟩ : ∃ m, m = least.toNat - xs.length := ⟨_, rfl⟩
  have HM := Lib.hid hm
  clear hB1 hown1 hg1 hat1 HR HN hc hca hm
  go_loopw [5] (fun r wr => ∃ k : Nat, k ≤ m ∧ wr.ownsRow w.heap.size 5 1 r (xs.length + k) (byv (xs ++ List.replicate k 0)) ∧ Below w.heap.size w wr ∧ ∃ A' c', r = .slice A' (xs.length + k) c') (fun r _ => least.toNat - (match r with | .slice _ n _ => n | _ => 0))
  case atStart =>
    refine ⟨0, by omega, by simpa using HO1.out, HB1.out, ?_⟩
    obtain ⟨A', c', rfl, -, -⟩ := own_form HO1.out
    exact ⟨A', c', rfl⟩
  case round =>
    obtain ⟨k, hk, hown, hB, A', c', rfl⟩ := hrel
    have hm1 := HM.out
    by_cases hlt : xs.length + k < least.toNat
    · have hbig : (xs.length : Int) + k < 1048576 := by omega
      have hlt2 : (xs.length : Int) + k < least := by omega
      have hk2 : k + 1 ≤ m := by omega
      clear hm1
      have HO := Lib.hid hown
      have HB := Lib.hid hB
      clear hown hB
      go_wp2_with (at_builtin; refine wpList_append_any _ rfl _ _ 47 rfl w.heap.size 5 i0 (.int .u8 0) 1 1 Try.underlying47 hi0 hz0 hz1 hz2 rfl (by decide) _ (xs.length + k) (byv (xs ++ List.replicate k 0)) rfl (HO.out.alloc _) (some ⟨wr.heap.size, 0, none⟩) 1 1 [.int .u8 0] rfl rfl (Rd.one _ _ _ rfl) (by intro u hu; simp at hu; subst hu; rfl) (by unfold maxLen; omega) (by omega) (by have := HB.out.size; simp; omega) ?_; intro v2 w2 hown2 hg2 hat2; obtain ⟨A2, c2, rfl, -, -⟩ := own_form hown2)
      go_roundw
      case rel =>
        refine ⟨k + 1, hk2, ?_, (HB.out.alloc HB.out.size _).grown hg2 (by have := HB.out.size; simp; omega) fun b hb => (HO.out.lt b hb).1, A2, c2, rfl⟩
        rw [List.replicate_succ', ← List.append_assoc, byv_app]
        exact hown2
      case measure => simp; omega
    · have HO := Lib.hid hown
      have HB := Lib.hid hB
      clear hown hB
      obtain rfl : k = m := by omega
      have hlt2 : ¬ (xs.length : Int) + k < least := by omega
      have e : pad xs least.toNat = xs ++ List.replicate k 0 := by rw [pad, ← hm1]
      clear hm1
      go_wp2
      go_ret
      refine ⟨_, rfl, ?_, HB.out⟩
      exact HO.out
end Go.Proofs.Ytcpngnnnggpfpaa
