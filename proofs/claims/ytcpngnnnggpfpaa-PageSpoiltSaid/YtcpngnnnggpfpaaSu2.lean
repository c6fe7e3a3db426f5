/- The walks of sum.Seal and sum.Open. No further condition. -/
import Derived.Test.YtcpngnnnggpfpaaSum
import Derived.Test.YtcpngnnnggpfpaaPk4
import Derived.Test.YtcpngnnnggpfpaaCut
namespace Go.Proofs.Ytcpngnnnggpfpaa
open Go.RowKit
attribute [local go_sem ↓] Go.wp_at_zero Go.wp_at_succ

/-- Bytes, and their sum behind them. -/
def sealL (xs : List Int) : List Int := xs ++ le 4 (cs xs)
theorem sealL_len (xs : List Int) : (sealL xs).length = xs.length + 4 := by simp [sealL, le_len]
theorem le_oct (k n : Nat) : Oct (le k n) := fun x hx => by
  obtain ⟨i, _, rfl⟩ := List.mem_map.1 hx
  unfold byteAt
  omega
theorem sealL_oct {xs : List Int} (h : Oct xs) : Oct (sealL xs) := h.app (le_oct _ _)
theorem le4 (n : Nat) : le 4 n = [((n % 256 : Nat) : Int), ((n / 256 % 256 : Nat) : Int), ((n / 65536 % 256 : Nat) : Int), ((n / 16777216 % 256 : Nat) : Int)] := by
  simp [le, List.range_succ, byteAt]
set_option maxHeartbeats 3200000 in
theorem seal_ok (A : Option Addr) (c : Nat) (xs : List Int) (w : World) (hr : Rd w A (byv xs)) (hx : xs.length ≤ 1000000) (ho : Oct xs) :
    Calls Try.prog 30 #[.slice A xs.length c] w fun e w' => ∃ r, e = .returned r ∧ w'.ownsRow w.heap.size 5 1 r (sealL xs).length (byv (sealL xs)) ∧ Below w.heap.size w w' := by
  obtain ⟨i0, hi0, hz0, hz1, hz2⟩ := info_parts (show (Try.prog.info? 5).map (fun i => (i.zero, i.size, i.bytes)) = some (some (.int .u8 0), 1, 1) by kernel_rfl)
  have HR := Lib.hid hr
  have HR2 := Lib.hid (hr.alloc (.cells #[] 5))
  have HN := Lib.hid (Blk.new w 5 #[])
  have HO := Lib.hid ho
  obtain ⟨n, hn⟩ : ∃ n, n = cs xs := ⟨_, rfl⟩
  have hn32 : n < 4294967296 := by rw [hn]; exact cs_lt ho
  have HNN := Lib.hid hn
  clear hr ho hn
  go_enter Try.func30, Try.ntmps30
  go_wp2_with (first
    | (go_at_call 46; refine (sof_ok A c xs _ HR.out (by omega) HO.out).mono ?_; rintro e w0 ⟨rfl, hw0⟩; subst w0; rw [← HNN.out])
    | (at_builtin; refine wpList_append_any _ rfl _ _ 47 rfl w.heap.size 5 i0 (.int .u8 0) 1 1 Try.underlying47 hi0 hz0 hz1 hz2 rfl (by decide) _ xs.length (byv xs) rfl (HO1.out.alloc _) (some ⟨w1.heap.size, 0, none⟩) 4 4 _ rfl rfl (Rd.blk_all (Blk.new w1 _ _)) (by intro u hu; simp at hu; rcases hu with rfl | rfl | rfl | rfl <;> rfl) (by unfold maxLen; omega) (by omega) (by have := HB1.out.size; simp; omega) ?_; intro v2 w2 hown2 hg2 hat2)
    | (at_builtin; refine wpList_append_any _ rfl _ _ 47 rfl w.heap.size 5 i0 _ 1 1 Try.underlying47 hi0 hz0 hz1 hz2 rfl (by decide) (.slice (some ⟨w.heap.size, 0, none⟩) 0 0) 0 [] rfl (ownsRow_empty _ _ _ _ _ 0 _ (Nat.le_refl _) HN.out (by unfold maxLen; omega) rfl) A xs.length c (byv xs) rfl (by simp [byv_len]) HR2.out (byv_one xs) (by unfold maxLen; omega) (by omega) (by simp) ?_; intro v1 w1 hown1 hg1 hat1; rw [List.nil_append, Nat.zero_add] at hown1; have HO1 := Lib.hid hown1; have HB1 : Hid (Below w.heap.size w w1) := Lib.hid (((Below.refl w.heap.size w).alloc (Nat.le_refl _) (.cells #[] 5)).grown hg1 (by simp) fun b hb => by injection hb with hb; exact Nat.le_of_eq hb); clear hown1 hg1 hat1))
  go_ret
  refine ⟨v2, rfl, ?_, HB1.out.alloc HB1.out.size _ |>.grown hg2 (by have := HB1.out.size; simp; omega) fun b hb => (HO1.out.lt b hb).1⟩
  unfold sealL
  rw [← HNN.out, List.length_append, le_len, byv_app, le4]
  have e24 : (n : Int) / 16777216 = ((n / 16777216 % 256 : Nat) : Int) := by omega
  rw [e24] at hown2
  exact hown2
theorem num4 (t0 t1 t2 t3 : Nat) (h0 : t0 < 256) (h1 : t1 < 256) (h2 : t2 < 256) (_h3 : t3 < 256) :
    t0 ||| t1 * 256 = t0 + 256 * t1 ∧ (t0 + 256 * t1) ||| t2 * 65536 = t0 + 256 * t1 + 65536 * t2 ∧ (t0 + 256 * t1 + 65536 * t2) ||| t3 * 16777216 = t0 + 256 * t1 + 65536 * t2 + 16777216 * t3 := by
  refine ⟨?_, ?_, ?_⟩
  · rw [or_mul_ t0 t1 8 256 (by decide) h0]; omega
  · rw [or_mul_ (t0 + 256 * t1) t2 16 65536 (by decide) (by omega)]; omega
  · rw [or_mul_ (t0 + 256 * t1 + 65536 * t2) t3 24 16777216 (by decide) (by omega)]; omega
theorem add_pos (x : Addr) (j : Nat) (hj : 0 < j) : x.add j = ⟨x.block, x.off + j, none⟩ := by
  have := add_field x 0 j hj
  rw [Nat.zero_add] at this
  rw [this]
  simp [Addr.add]
theorem open_short (A : Option Addr) (n c : Nat) (w : World) (h : n < 4) :
    Calls Try.prog 47 #[.slice A n c] w fun e w' => e = .returned (.tuple #[.slice none 0 0, .int .i64 6]) ∧ w' = w := by
  go_enter Try.func47, Try.ntmps47
  go_wp2
  go_ret2
  exact ⟨rfl, rfl⟩
set_option maxHeartbeats 3200000 in
theorem open_any (A : Option Addr) (c : Nat) (ys ts : List Int) (w : World) (hr : Rd w A (byv (ys ++ ts))) (hx : ys.length ≤ 1000000) (ho : Oct ys) (hto : Oct ts) (ht : ts.length = 4) (hc : ys.length + 4 ≤ c) :
    Calls Try.prog 47 #[.slice A (ys.length + 4) c] w fun e w' => (∃ r, e = .returned (.tuple #[r, .int .i64 (if num ts = cs ys then 0 else 5)]) ∧ (if num ts = cs ys then w'.ownsRow w.heap.size 5 1 r ys.length (byv ys) else r = .slice none 0 0)) ∧ Below w.heap.size w w' := by
  obtain ⟨t0, t1, t2, t3, rfl⟩ : ∃ t0 t1 t2 t3 : Int, ts = [t0, t1, t2, t3] := by
    match ts, ht with
    | [a, b, c, d], _ => exact ⟨a, b, c, d, rfl⟩
  have b0 := hto t0 (by simp)
  have b1 := hto t1 (by simp)
  have b2 := hto t2 (by simp)
  have b3 := hto t3 (by simp)
  obtain ⟨t0, rfl⟩ := Int.eq_ofNat_of_zero_le b0.1
  obtain ⟨t1, rfl⟩ := Int.eq_ofNat_of_zero_le b1.1
  obtain ⟨t2, rfl⟩ := Int.eq_ofNat_of_zero_le b2.1
  obtain ⟨t3, rfl⟩ := Int.eq_ofNat_of_zero_le b3.1
  have hcell : ∀ (j : Nat) (x : Int), [(t0 : Int), t1, t2, t3][j]? = some x → ∃ ad, A = some ad ∧ w.cell? (ad.add (ys.length + j)) = some (.int .u8 x) := fun j x hj => hr (ys.length + j) (.int .u8 x) (by
    unfold byv
    rw [List.getElem?_map, List.getElem?_append_right (by omega), Nat.add_sub_cancel_left, hj]
    rfl)
  obtain ⟨ad, rfl, c0⟩ := hcell 0 t0 rfl
  obtain ⟨_, e, c1⟩ := hcell 1 t1 rfl
  cases e
  obtain ⟨_, e, c2⟩ := hcell 2 t2 rfl
  cases e
  obtain ⟨_, e, c3⟩ := hcell 3 t3 rfl
  cases e
  rw [Nat.add_zero] at c0
  rw [add_pos ad _ (by omega)] at c1 c2 c3
  obtain ⟨n0, n1, n2⟩ := num4 t0 t1 t2 t3 (by omega) (by omega) (by omega) (by omega)
  have hnum : num [(t0 : Int), t1, t2, t3] = ((t0 + 256 * t1 + 65536 * t2 + 16777216 * t3 : Nat) : Int) := by simp [num]; omega
  rw [hnum]
  obtain ⟨i0, hi0, hz0, hz1, hz2⟩ := info_parts (show (Try.prog.info? 5).map (fun i => (i.zero, i.size, i.bytes)) = some (some (.int .u8 0), 1, 1) by kernel_rfl)
  have hry : Rd w (some ad) (byv ys) := fun j u hu => hr j u (by rw [byv_app, List.getElem?_append_left (List.getElem?_eq_some_iff.1 hu).1]; exact hu)
  have HRY := Lib.hid hry
  have HO := Lib.hid ho
  have hl := cs_lt ho
  have e0 : (0 : Int) ≤ (ys.length : Int) := by omega
  have f0 : IntKind.i64.wrap ((ys.length : Int) + 1) = (ys.length : Int) + 1 := IntWalk.i64_in _ (by omega)
  have f1 : IntKind.i64.wrap ((ys.length : Int) + 2) = (ys.length : Int) + 2 := IntWalk.i64_in _ (by omega)
  have f2 : IntKind.i64.wrap ((ys.length : Int) + 3) = (ys.length : Int) + 3 := IntWalk.i64_in _ (by omega)
  obtain ⟨L, hL⟩ : ∃ L, L = ys.length + 4 := ⟨_, rfl⟩
  have l0 : (ys.length : Int) < (L : Int) := by omega
  have l1 : (ys.length : Int) + 1 < (L : Int) := by omega
  have l2 : (ys.length : Int) + 2 < (L : Int) := by omega
  have l3 : (ys.length : Int) + 3 < (L : Int) := by omega
  have l4 : IntKind.i64.wrap ((L : Int) - 4) = (ys.length : Int) := by rw [hL]; exact (IntWalk.i64_in _ (by omega)).trans (by omega)
  have l5 : (L : Int) - 4 = (ys.length : Int) := by omega
  rw [← hL] at hc ⊢
  have HL := Lib.hid hL
  have m1 : (0 : Int) ≤ (ys.length : Int) + 1 := by omega
  have m2 : (0 : Int) ≤ (ys.length : Int) + 2 := by omega
  have m3 : (0 : Int) ≤ (ys.length : Int) + 3 := by omega
  have o1 : ((ys.length : Int) + 1).toNat = ys.length + 1 := by omega
  have o2 : ((ys.length : Int) + 2).toNat = ys.length + 2 := by omega
  have o3 : ((ys.length : Int) + 3).toNat = ys.length + 3 := by omega
  have w0 : IntKind.u32.wrap (t0 : Int) = t0 := by rw [IntKind.wrap_u32]; omega
  have w1 : IntKind.u32.wrap (t1 : Int) = t1 := by rw [IntKind.wrap_u32]; omega
  have w2 : IntKind.u32.wrap (t2 : Int) = t2 := by rw [IntKind.wrap_u32]; omega
  have w3 : IntKind.u32.wrap (t3 : Int) = t3 := by rw [IntKind.wrap_u32]; omega
  clear hcell hr ho hto ht hry hnum hL
  obtain ⟨T, hTT⟩ : ∃ T, T = t0 + 256 * t1 + 65536 * t2 + 16777216 * t3 := ⟨_, rfl⟩
  rw [← hTT] at n2 ⊢
  have HTT := Lib.hid hTT
  clear hTT
  by_cases hT : T = cs ys
  · have hi : ((T : Nat) : Int) = ((cs ys : Nat) : Int) := by rw [hT]
    have hne : (((cs ys : Nat) : Int) != ((T : Nat) : Int)) = false := by rw [hi]; simp
    have HNE := Lib.hid hne
    simp only [if_pos hi]
    clear hi hne hT
    go_enter Try.func47, Try.ntmps47
    go_wp2
    go_quiet (fail)
    have q1 : Go.bits .or .u32 (t0 : Int) ((t1 : Int) * 256) = ((t0 + 256 * t1 : Nat) : Int) := by rw [← n0]; exact u32_or_nat t0 (t1 * 256) (by omega) (by omega)
    have q2 : Go.bits .or .u32 ((t0 + 256 * t1 : Nat) : Int) ((t2 : Int) * 65536) = ((t0 + 256 * t1 + 65536 * t2 : Nat) : Int) := by rw [← n1]; exact u32_or_nat (t0 + 256 * t1) (t2 * 65536) (by omega) (by omega)
    have q3 : Go.bits .or .u32 ((t0 + 256 * t1 + 65536 * t2 : Nat) : Int) ((t3 : Int) * 16777216) = ((T : Nat) : Int) := by rw [← n2]; exact u32_or_nat (t0 + 256 * t1 + 65536 * t2) (t3 * 16777216) (by omega) (by omega)
    rw [q1, q2, q3]
    clear q1 q2 q3 n0 n1 n2 w0 w1 w2 w3 c0 c1 c2 c3 l1 l2 l3 f0 f1 f2 m1 m2 m3 o1 o2 o3 HTT
    have HB := Lib.hid (below_drewN (Below.refl w.heap.size w) nq)
    have HRW := Lib.hid (HRY.out.dn nq)
    obtain ⟨W, hW⟩ : ∃ W, W = w.drewN nq := ⟨_, rfl⟩
    have HWS := Lib.hid (show W.heap.size = w.heap.size by rw [hW]; rfl)
    rw [← hW] at HB HRW ⊢
    clear hW
    have hcut := fun W => cut_lo_ 47 1 Try.underlying47 (fun _ => by kernel_rfl) (some ad) L c ys.length (ys.length : Int) rfl (by omega) W
    have HN := Lib.hid (Blk.new W 5 #[])
    have HR2 := Lib.hid (HRW.out.alloc (.cells #[] 5))
    generalize (T : Int) = T at HNE ⊢
    go_wp2_with (first
      | (go_at_call 46; refine (sof_ok (some ad) c ys _ HRW.out (by omega) HO.out).mono ?_; rintro e w3 ⟨rfl, hw3⟩; subst w3; have hne := HNE.out)
      | (at_builtin; (refine wpList_append_any _ rfl _ _ 47 rfl W.heap.size 5 i0 _ 1 1 Try.underlying47 hi0 hz0 hz1 hz2 rfl (by decide) (.slice (some ⟨W.heap.size, 0, none⟩) 0 0) 0 [] rfl (ownsRow_empty _ _ _ _ _ 0 _ (Nat.le_refl _) HN.out (by unfold maxLen; omega) rfl) (some ad) ys.length c (byv ys) rfl (by simp [byv_len]) HR2.out (byv_one ys) (by unfold maxLen; omega) (by omega) (by simp) ?_); intro v1 w1 hown1 hg1 hat1; rw [List.nil_append, Nat.zero_add] at hown1))
    go_ret2
    refine ⟨⟨v1, rfl, by rw [← HWS.out]; exact hown1⟩, (HB.out.alloc (by have := HWS.out; omega) (.cells #[] 5)).grown hg1 (by have := HWS.out; simp; omega) fun b hb => by have h2 : W.heap.size = b := Option.some.inj hb; rw [← h2, HWS.out]; exact Nat.le_refl _⟩
  · have hi : ¬ ((T : Nat) : Int) = ((cs ys : Nat) : Int) := by omega
    have hne : (((cs ys : Nat) : Int) != ((T : Nat) : Int)) = true := by rw [bne_iff_ne]; omega
    have HNE := Lib.hid hne
    simp only [if_neg hi]
    clear hi hne hT
    go_enter Try.func47, Try.ntmps47
    go_wp2
    go_quiet (fail)
    have q1 : Go.bits .or .u32 (t0 : Int) ((t1 : Int) * 256) = ((t0 + 256 * t1 : Nat) : Int) := by rw [← n0]; exact u32_or_nat t0 (t1 * 256) (by omega) (by omega)
    have q2 : Go.bits .or .u32 ((t0 + 256 * t1 : Nat) : Int) ((t2 : Int) * 65536) = ((t0 + 256 * t1 + 65536 * t2 : Nat) : Int) := by rw [← n1]; exact u32_or_nat (t0 + 256 * t1) (t2 * 65536) (by omega) (by omega)
    have q3 : Go.bits .or .u32 ((t0 + 256 * t1 + 65536 * t2 : Nat) : Int) ((t3 : Int) * 16777216) = ((T : Nat) : Int) := by rw [← n2]; exact u32_or_nat (t0 + 256 * t1 + 65536 * t2) (t3 * 16777216) (by omega) (by omega)
    rw [q1, q2, q3]
    clear q1 q2 q3 n0 n1 n2 w0 w1 w2 w3 c0 c1 c2 c3 l1 l2 l3 f0 f1 f2 m1 m2 m3 o1 o2 o3 HTT
    have HB := Lib.hid (below_drewN (Below.refl w.heap.size w) nq)
    have HRW := Lib.hid (HRY.out.dn nq)
    obtain ⟨W, hW⟩ : ∃ W, W = w.drewN nq := ⟨_, rfl⟩
    have HWS := Lib.hid (show W.heap.size = w.heap.size by rw [hW]; rfl)
    rw [← hW] at HB HRW ⊢
    clear hW
    have hcut := fun W => cut_lo_ 47 1 Try.underlying47 (fun _ => by kernel_rfl) (some ad) L c ys.length (ys.length : Int) rfl (by omega) W
    have HN := Lib.hid (Blk.new W 5 #[])
    have HR2 := Lib.hid (HRW.out.alloc (.cells #[] 5))
    generalize (T : Int) = T at HNE ⊢
    go_wp2_with (go_at_call 46; refine (sof_ok (some ad) c ys _ HRW.out (by omega) HO.out).mono ?_; rintro e w3 ⟨rfl, hw3⟩; subst w3; have hne := HNE.out)
    go_ret2
    exact ⟨⟨_, rfl, rfl⟩, HB.out⟩
end Go.Proofs.Ytcpngnnnggpfpaa
