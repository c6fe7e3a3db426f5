/- The walks of pack's reader. No further condition. -/
import Derived.Test.YtcpngnnnggpfpaaPk2
namespace Go.Proofs.Ytcpngnnnggpfpaa
open Go.RowKit
attribute [local go_sem ↓] Go.wp_at_zero Go.wp_at_succ

/-- A reader: its block, and what is left of its row. -/
structure Re (w : World) (g h : Nat) (xs : List Int) (bad : Bool) : Prop where
  form : ∃ o c, Blk w g 86 #[.slice (some ⟨h, o, none⟩) xs.length c, .bool bad] ∧ Rd w (some ⟨h, o, none⟩) (byv xs) ∧ xs.length ≤ c ∧ h ≠ g
theorem Re.later {w w' : World} {g h : Nat} {xs : List Int} {bad : Bool} (k : Re w g h xs bad) (hb : Below w.heap.size w w') : Re w' g h xs bad := by
  obtain ⟨o, c, k1, k2, k3, k4⟩ := k.form
  exact ⟨o, c, k1.later hb, k2.later hb, k3, k4⟩
set_option maxHeartbeats 3200000 in
theorem read_ok (A : Option Addr) (c : Nat) (xs : List Int) (w : World) (hr : Rd w A (byv xs)) (hx : xs.length ≤ 10000000) :
    Calls Try.prog 33 #[.slice A xs.length c] w fun e w' => ∃ g h, e = .returned (.pointer (some ⟨g, 0, none⟩)) ∧ w.heap.size ≤ g ∧ w.heap.size ≤ h ∧ Re w' g h xs false ∧ Below w.heap.size w w' := by
  obtain ⟨i0, hi0, hz0, hz1, hz2⟩ := info_parts (show (Try.prog.info? 5).map (fun i => (i.zero, i.size, i.bytes)) = some (some (.int .u8 0), 1, 1) by kernel_rfl)
  have HR := Lib.hid (hr.alloc (.cells #[] 5))
  have HN := Lib.hid (Blk.new w 5 #[])
  clear hr
  go_enter Try.func33, Try.ntmps33
  go_wp2_with (at_builtin; refine wpList_append_any _ rfl _ _ 47 rfl w.heap.size 5 i0 _ 1 1 Try.underlying47 hi0 hz0 hz1 hz2 rfl (by decide) (.slice (some ⟨w.heap.size, 0, none⟩) 0 0) 0 [] rfl (ownsRow_empty _ _ _ _ _ 0 _ (Nat.le_refl _) HN.out (by unfold maxLen; omega) rfl) A xs.length c (byv xs) rfl (by simp [byv_len]) HR.out (byv_one xs) (by unfold maxLen; omega) (by omega) (by simp) ?_; intro v1 w1 hown1 hg1 hat1; rw [List.nil_append, Nat.zero_add] at hown1; obtain ⟨A1, c1, rfl, hA1, hrd1⟩ := own_form hown1)
  go_ret
  obtain ⟨b, rfl⟩ : ∃ b, A1 = some ⟨b, 0, none⟩ := by
    rcases A1 with _ | ad
    · simp [Value.ownBlock] at hat1
    · obtain ⟨b, rfl⟩ := hA1 ad rfl
      exact ⟨b, rfl⟩
  have hlt := hown1.lt b (by rfl)
  have hB1 : Below w.heap.size w w1 := ((Below.refl w.heap.size w).alloc (Nat.le_refl _) (.cells #[] 5)).grown hg1 (by simp) fun b hb => by injection hb with hb; exact Nat.le_of_eq hb
  refine ⟨w1.heap.size, b, rfl, hB1.size, hlt.1, ⟨0, c1, Blk.new _ _ _, hrd1.alloc _, ?_, by have := hlt.2; omega⟩, hB1.alloc hB1.size _⟩
  rcases hown1.2 with ⟨e, -⟩ | ⟨g', cap, cur, e, -, -, h5, -⟩
  · cases e
  · injection e with e1 e2 e3
    omega
theorem Rd.take {w : World} {A : Option Addr} {xs : List Value} (k : Rd w A xs) (n : Nat) : Rd w A (xs.take n) := fun j u hu => by
  rw [List.getElem?_take] at hu
  split at hu
  · exact k j u hu
  · cases hu
theorem Rd.drop {w : World} {h o : Nat} {xs : List Value} (k : Rd w (some ⟨h, o, none⟩) xs) (n : Nat) : Rd w (some ⟨h, o + n, none⟩) (xs.drop n) := fun j u hu => by
  rw [List.getElem?_drop] at hu
  obtain ⟨ad, e, hc⟩ := k _ u hu
  injection e with e
  subst e
  refine ⟨_, rfl, ?_⟩
  rw [add_zero_addr] at hc ⊢
  rw [Nat.add_assoc]
  exact hc
set_option maxHeartbeats 3200000 in
theorem rraw_ok (g b : Nat) (xs : List Int) (n : Nat) (w : World) (hr : Re w g b xs false) (hx : xs.length ≤ 10000000) (hn : n ≤ xs.length) :
    Calls Try.prog 48 #[.pointer (some ⟨g, 0, none⟩), .int .i64 n] w fun e w' => ∃ r, e = .returned r ∧ w'.ownsRow w.heap.size 5 1 r (xs.take n).length (byv (xs.take n)) ∧ Re w' g b (xs.drop n) false ∧ Fr (· = g) w w' := by
  obtain ⟨i0, hi0, hz0, hz1, hz2⟩ := info_parts (show (Try.prog.info? 5).map (fun i => (i.zero, i.size, i.bytes)) = some (some (.int .u8 0), 1, 1) by kernel_rfl)
  obtain ⟨o, c, k1, k2, k3, k4⟩ := hr.form
  obtain ⟨hc0, hc1⟩ := k1.cells2
  obtain ⟨ha0, ha1⟩ := (k1.alloc (.cells #[] 5)).cells2
  have hbl := (Below.refl w.heap.size w).alloc (Nat.le_refl _) (.cells #[] 5)
  have HR : Hid (Rd (w.alloc (.cells #[] 5)) (some ⟨b, o, none⟩) (byv (xs.take n))) := Lib.hid (by rw [byv_take]; exact (k2.take n).alloc _)
  have hlen : (byv (xs.take n)).length = n * 1 := by rw [byv_len, List.length_take]; omega
  have HLEN := Lib.hid hlen
  have HN := Lib.hid (Blk.new w 5 #[])
  have HK1 := Lib.hid k1
  have HK2 := Lib.hid k2
  have HBL := Lib.hid hbl
  have HH := Lib.hid k4
  have hnx : (n : Int) ≤ xs.length := by omega
  have hnc : n ≤ c := by omega
  clear k1 k2 hr hbl hlen k4
  go_enter Try.func48, Try.ntmps48
  go_wp2_with (at_builtin; refine wpList_append_any _ rfl _ _ 47 rfl w.heap.size 5 i0 _ 1 1 Try.underlying47 hi0 hz0 hz1 hz2 rfl (by decide) (.slice (some ⟨w.heap.size, 0, none⟩) 0 0) 0 [] rfl (ownsRow_empty _ _ _ _ _ 0 _ (Nat.le_refl _) HN.out (by unfold maxLen; omega) rfl) (some ⟨b, o, none⟩) n c (byv (xs.take n)) rfl HLEN.out HR.out (byv_one _) (by unfold maxLen; omega) (by omega) (by simp) ?_; intro v1 w1 hown1 hg1 hat1; rw [List.nil_append, Nat.zero_add] at hown1; have hB1 : Below w.heap.size w w1 := HBL.out.grown hg1 (by simp) (fun b hb => by injection hb with hb; exact Nat.le_of_eq hb); have HK3 := Lib.hid (HK1.out.later hB1); obtain ⟨d0, d1⟩ := HK3.out.cells2; have hf := HK3.out.frozen 0)
  all_goals
    have hFr : ∀ u, Fr (· = g) w (w1.setCell ⟨g, 0, none⟩ u) := fun u => ((Fr.of_below (S := (· = g)) hB1 fun x hx h1 => absurd hx (by omega))).setCell (p := ⟨g, 0, none⟩) (.inl rfl) u
    have hR : ∀ u, Rd (w1.setCell ⟨g, 0, none⟩ u) (some ⟨b, o, none⟩) (byv xs) := fun u => HK2.out.fr (hFr u) (fun ad e => by injection e with e; subst e; exact HH.out)
    have hown2 : ∀ u, (w1.setCell ⟨g, 0, none⟩ u).ownsRow w.heap.size 5 1 v1 n (byv (xs.take n)) := fun u => ownsRow_fr (S := (· = g)) hown1 ((Fr.refl (· = g) w1).setCell (p := ⟨g, 0, none⟩) (.inl rfl) u) (fun b hb e => own_blk_ne hown1 HK3.out (by decide) (by rw [hb, e]))
    have hb := fun u => HK3.out.set_ 0 u
    have hdl : (xs.drop n).length = xs.length - n := List.length_drop
    go_ret
    first
      | exact ⟨v1, rfl, hown2 _, ⟨o + n, c - n, by rw [hdl]; exact hb _, by rw [byv_drop]; exact (hR _).drop n, by rw [hdl]; omega, HH.out⟩, hFr _⟩
      | exact ⟨v1, rfl, hown2 _, ⟨o, 0, by rw [hdl]; exact hb _, by rw [List.drop_eq_nil_of_le (by omega)]; exact Rd.nil _ _, by rw [hdl]; omega, HH.out⟩, hFr _⟩
theorem rraw_none (g h : Nat) (xs : List Int) (bad : Bool) (n : Int) (w : World) (hr : Re w g h xs bad) (hn : bad = true ∨ n < 0 ∨ xs.length < n) :
    Calls Try.prog 48 #[.pointer (some ⟨g, 0, none⟩), .int .i64 n] w fun e w' => e = .returned (.slice none 0 0) ∧ Re w' g h xs true ∧ Fr (· = g) w w' := by
  obtain ⟨o, c, k1, k2, k3, k4⟩ := hr.form
  obtain ⟨hc0, hc1⟩ := k1.cells2
  have hf := k1.frozen 1
  have HK := Lib.hid k1
  have HK2 := Lib.hid k2
  have HF : Hid (Fr (· = g) w (w.setCell ⟨g, 1, none⟩ (.bool true))) := Lib.hid ((Fr.refl (· = g) w).setCell (p := ⟨g, 1, none⟩) (.inl rfl) _)
  have HH := Lib.hid k4
  clear k1 k2 hr
  go_enter Try.func48, Try.ntmps48
  rcases bad with _ | _ <;> rcases Classical.em (n < 0) with h1 | h1 <;> rcases Classical.em ((xs.length : Int) < n) with h2 | h2
  all_goals first
    | (exfalso; simp at hn; omega)
    | (clear hn
       go_wp2
       go_ret
       exact ⟨rfl, ⟨o, c, HK.out.set_ 1 _, HK2.out.fr HF.out (fun ad e => by injection e with e; subst e; exact HH.out), k3, HH.out⟩, HF.out⟩)
end Go.Proofs.Ytcpngnnnggpfpaa
