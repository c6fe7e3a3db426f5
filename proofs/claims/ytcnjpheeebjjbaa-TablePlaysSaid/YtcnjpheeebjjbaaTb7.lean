/- The walk of TableSums. No further condition. -/
import Derived.Test.YtcnjpheeebjjbaaTb6
namespace Go.Proofs.Ytcnjpheeebjjbaa
open Go.RowKit

/-! ### plain -/
/-- Each segment's state is one that there is. -/
def Okst (l : List Sg) : Prop := ∀ x ∈ l, x.1 = 0 ∨ x.1 = 1 ∨ x.1 = 2
theorem okst_upd {l : List Sg} {i : Int} {f : Sg → Sg} (h : Okst l) (hf : ∀ x, (x.1 = 0 ∨ x.1 = 1 ∨ x.1 = 2) → (f x).1 = 0 ∨ (f x).1 = 1 ∨ (f x).1 = 2) : Okst (upd l i f) := by
  rcases at_or l i with hi | ⟨k, s, rfl, hi⟩
  · rw [upd_no _ hi]; exact h
  · rw [upd_yes _ hi]
    intro x hx
    rcases List.mem_or_eq_of_mem_set hx with h1 | h1
    · exact h x h1
    · rw [h1]; exact hf s (h s (List.mem_of_getElem? hi))
theorem cnt_all (l : List Sg) (h : Okst l) : cnt 0 l + cnt 1 l + cnt 2 l = l.length := by
  induction l with
  | nil => rfl
  | cons a l ih =>
    have := ih fun x hx => h x (by simp [hx])
    unfold cnt at *
    rcases h a (by simp) with e | e | e <;> simp [e] <;> omega
theorem deads_cnt (l : List Sg) : ∀ i, (deads l i).length ≤ cnt 2 l := by
  induction l with
  | nil => intro i; simp [deads]
  | cons a l ih =>
    intro i
    have := ih (i + 1)
    unfold cnt at *
    unfold deads isDead
    by_cases e : a.1 == 2 <;> by_cases e2 : a.2.1 == 0 <;> simp [e, e2] <;> omega
theorem first_cnt (l : List Sg) : ∀ i, (firstFree l i < 0 ↔ cnt 0 l = 0) := by
  induction l with
  | nil => intro i; simp [firstFree, cnt]
  | cons a l ih =>
    intro i
    have := ih (i + 1)
    unfold cnt at *
    unfold firstFree
    by_cases e : a.1 == 0
    · simp only [e, if_true, List.filter_cons_of_pos, List.length_cons]
      omega
    · simpa [e] using this

/-- What an Act is, in memory. -/
def ActAt (w : World) (x : Addr) (k : Nat) (d a s v b : Int) : Prop :=
  w.cell? (x.add (k * 5)) = some (.int .i8 d) ∧ w.cell? ⟨(x.add (k * 5)).block, (x.add (k * 5)).off + 1, none⟩ = some (.int .i8 a) ∧
  w.cell? ⟨(x.add (k * 5)).block, (x.add (k * 5)).off + 2, none⟩ = some (.int .u8 s) ∧ w.cell? ⟨(x.add (k * 5)).block, (x.add (k * 5)).off + 3, none⟩ = some (.int .i8 v) ∧
  w.cell? ⟨(x.add (k * 5)).block, (x.add (k * 5)).off + 4, none⟩ = some (.int .u64 b)
theorem ActAt.later {w w' : World} {x : Addr} {k : Nat} {d a s v b : Int} (h : ActAt w x k d a s v b) (hb : Below w.heap.size w w') : ActAt w' x k d a s v b :=
  ⟨(hb.cell (World.block_lt_of_cell? w _ h.1)).trans h.1, (hb.cell (World.block_lt_of_cell? w _ h.2.1)).trans h.2.1, (hb.cell (World.block_lt_of_cell? w _ h.2.2.1)).trans h.2.2.1,
    (hb.cell (World.block_lt_of_cell? w _ h.2.2.2.1)).trans h.2.2.2.1, (hb.cell (World.block_lt_of_cell? w _ h.2.2.2.2)).trans h.2.2.2.2⟩

theorem below_tabTo {B : Nat} {w wr w3 : World} {g h : Nat} {l : List Sg} (hB : Below B w wr) (k : TabTo wr w3 g h l) (hh : B ≤ h) (hs : B ≤ w.heap.size) : Below B w w3 :=
  hB.trans (k.fr.toBelow (Nat.le_trans hs hB.size) fun b hb e => by omega)
theorem add_field (x : Addr) (i j : Nat) (hj : 0 < j) : x.add (i + j) = ⟨(x.add i).block, (x.add i).off + j, none⟩ := by
  rw [← add_of_add]
  generalize x.add i = y
  unfold Addr.add
  rw [if_neg (by omega)]
theorem actAt_of {w : World} {x : Addr} {k : Nat} {d a s v b : Int} (h0 : w.cell? (x.add (k * 5 + 0)) = some (.int .i8 d)) (h1 : w.cell? (x.add (k * 5 + 1)) = some (.int .i8 a)) (h2 : w.cell? (x.add (k * 5 + 2)) = some (.int .u8 s))
    (h3 : w.cell? (x.add (k * 5 + 3)) = some (.int .i8 v)) (h4 : w.cell? (x.add (k * 5 + 4)) = some (.int .u64 b)) : ActAt w x k d a s v b :=
  ⟨h0, by rw [← add_field _ _ _ (by decide)]; exact h1, by rw [← add_field _ _ _ (by decide)]; exact h2, by rw [← add_field _ _ _ (by decide)]; exact h3, by rw [← add_field _ _ _ (by decide)]; exact h4⟩
theorem i8_in {b : Int} (h : (Lit.int .i8 b).wf = true) : -128 ≤ b ∧ b ≤ 127 := by simp [Lit.wf, IntKind.min, IntKind.max, IntKind.bits, IntKind.signed] at h; omega
theorem u8_in {b : Int} (h : (Lit.int .u8 b).wf = true) : 0 ≤ b ∧ b ≤ 255 := by simp [Lit.wf, IntKind.min, IntKind.max, IntKind.bits, IntKind.signed] at h; omega
theorem u8_nat {b : Int} (h : (Lit.int .u8 b).wf = true) : ∃ n : Nat, b = n ∧ n ≤ 255 := by
  have g2 := u8_in h
  obtain ⟨n, rfl⟩ := Int.eq_ofNat_of_zero_le g2.1
  exact ⟨n, rfl, by omega⟩
theorem tableOwn_true (a : Int) (w : World) (h1 : (Lit.int .u8 a).wf = true) : Calls Try.prog 3 #[.int .u8 a] w fun e w' => e = .returned (.bool true) ∧ Below w.heap.size w w' := by
  obtain ⟨n, rfl, hn⟩ := u8_nat h1
  exact tableOwn_walk n w hn
set_option maxHeartbeats 6400000 in
theorem tableSums_walk (n : Nat) (A : Option Addr) (len c : Nat) (w : World) (hn : n ≤ 255)
    (ra : ∀ i, i < len → ∃ x d a s v b, A = some x ∧ ActAt w x i d a s v b ∧ (-128 ≤ d ∧ d ≤ 127) ∧ (-128 ≤ a ∧ a ≤ 127) ∧ (0 ≤ s ∧ s ≤ 255) ∧ (-128 ≤ v ∧ v ≤ 127)) (hm : len ≤ 9223372036854775807) :
    Calls Try.prog 4 #[.int .u8 n, .slice A len c] w fun e w' => e = .returned (.bool true) ∧ Below w.heap.size w w' := by
  have ha := awake_ok w
  by_cases hlong : 80 < len
  · go_enter Try.func4, Try.ntmps4
    go_wp2_with (go_at_call 6; refine ha.mono ?_; rintro e w1 ⟨rfl, hb1⟩)
    go_ret
    exact ⟨rfl, hb1⟩
  have hnew := fun W => new_ok (n % 9) W (by omega)
  rw [show ((n % 9 : Nat) : Int) = (n : Int) % 9 by omega] at hnew
  go_enter Try.func4, Try.ntmps4
  go_wp2_with (first
    | (go_at_call 6; refine ha.mono ?_; rintro e w1 ⟨rfl, hb1⟩)
    | (go_at_call 7; refine (hnew _).mono ?_; rintro e w2 ⟨rfl, ht2, hb2, hz2⟩))
  have hB2 := hb1.trans (hb2.mono hb1.size)
  have hwh : w.heap.size ≤ w1.heap.size := hb1.size
  clear ha hnew hb1 hb2
  obtain ⟨h, hh⟩ : ∃ h, h = w1.heap.size := ⟨_, rfl⟩
  rw [← hh] at ht2 hwh ⊢
  have HH := Lib.hid hh
  clear hh
  have hok2 : Okst (List.replicate (n % 9) (0, 0, 0)) := fun x hx => by rw [List.eq_of_mem_replicate hx]; exact .inl rfl
  go_loopw [19] (fun i wr => ∃ (k : Nat) (l : List Sg), k ≤ len ∧ i = .int .i64 k ∧ Tab wr (h + 1) h l ∧ Okst l ∧ l.length ≤ 8 ∧ Below w.heap.size w wr) (fun i _ => len - (intOf i).toNat)
  case atStart => exact ⟨0, _, by omega, rfl, ht2, hok2, by simp; omega, hB2⟩
  case round =>
    clear ht2 hok2 hB2
    obtain ⟨k, l, hk, rfl, ht, hok, hl8, hB⟩ := hrel
    by_cases hlt : k < len
    · obtain ⟨x, d, a, s, v, b, rfl, hact, hd, ha1, hs1, hv1⟩ := ra k hlt
      obtain ⟨c0, c1, c2, c3, c4⟩ := (⟨(hB.cell (World.block_lt_of_cell? w _ hact.1)).trans hact.1, (hB.cell (World.block_lt_of_cell? w _ hact.2.1)).trans hact.2.1, (hB.cell (World.block_lt_of_cell? w _ hact.2.2.1)).trans hact.2.2.1,
        (hB.cell (World.block_lt_of_cell? w _ hact.2.2.2.1)).trans hact.2.2.2.1, (hB.cell (World.block_lt_of_cell? w _ hact.2.2.2.2)).trans hact.2.2.2.2⟩ : ActAt wr x k d a s v b)
      clear hact ra
      have hB1 := hB.alloc hB.size (.cells #[.int .i8 d, .int .i8 a, .int .u8 s, .int .i8 v, .int .u64 b] 36)
      have ht1 := ht.later ((Below.refl _ _).alloc (Nat.le_refl _) (.cells #[.int .i8 d, .int .i8 a, .int .u8 s, .int .i8 v, .int .u64 b] 36))
      have hsz1 := hB.size
      have HB1 := Lib.hid hB1
      have HT1 := Lib.hid ht1
      clear hB hB1 ht1 ht
      have key : ∀ (w3 : World) (l2 : List Sg), TabTo (wr.alloc (.cells #[.int .i8 d, .int .i8 a, .int .u8 s, .int .i8 v, .int .u64 b] 36)) w3 (h + 1) h l2 → Below w.heap.size w w3 := fun w3 l2 k => below_tabTo HB1.out k hwh (Nat.le_refl _)
      have KEY := Lib.hid key
      have HOK := Lib.hid hok
      clear key hok
      go_wp2_with (first
        | (go_at_call 10; refine (open_any (h + 1) h a l _ HT1.out).mono ?_; rintro e w3 ⟨rfl, hT⟩; obtain ⟨l2, ht2, hok2, hlen2, hb2⟩ : ∃ l2, Tab w3 (h + 1) h l2 ∧ Okst l2 ∧ l2.length = l.length ∧ Below w.heap.size w w3 := ⟨_, hT.tab, okst_upd HOK.out fun x _ => .inr (.inl rfl), upd_len _ _ _, KEY.out _ _ hT⟩)
        | (go_at_call 11; refine (seal_any (h + 1) h a b l _ HT1.out).mono ?_; rintro e w3 ⟨rfl, hT⟩; obtain ⟨l2, ht2, hok2, hlen2, hb2⟩ : ∃ l2, Tab w3 (h + 1) h l2 ∧ Okst l2 ∧ l2.length = l.length ∧ Below w.heap.size w w3 := ⟨_, hT.tab, okst_upd HOK.out fun x _ => .inr (.inr rfl), upd_len _ _ _, KEY.out _ _ hT⟩)
        | (go_at_call 13; refine (live_any (h + 1) h a v l _ HT1.out).mono ?_; rintro e w3 ⟨rfl, hT⟩; obtain ⟨l2, ht2, hok2, hlen2, hb2⟩ : ∃ l2, Tab w3 (h + 1) h l2 ∧ Okst l2 ∧ l2.length = l.length ∧ Below w.heap.size w w3 := ⟨_, hT.tab, okst_upd HOK.out fun x hx => hx, upd_len _ _ _, KEY.out _ _ hT⟩)
        | (go_at_call 12; refine (clear_one (h + 1) h (wr.heap.size + 1) a l _ (HT1.out.later ((Below.refl _ _).alloc (Nat.le_refl _) _)) (Blk.new_ _ _ _ (by simp))).mono ?_; rintro e w3 ⟨rfl, hT⟩; obtain ⟨l2, ht2, hok2, hlen2, hb2⟩ : ∃ l2, Tab w3 (h + 1) h l2 ∧ Okst l2 ∧ l2.length = l.length ∧ Below w.heap.size w w3 := ⟨_, hT.tab, okst_upd HOK.out fun x _ => .inl rfl, upd_len _ _ _, below_tabTo (HB1.out.alloc (by simp; omega) _) hT hwh (Nat.le_refl _)⟩)
        | fail)
      all_goals
        have hc := cnt_all l2 hok2
        have hc1 : (cnt 0 l2 : Int) + cnt 1 l2 + cnt 2 l2 ≤ l2.length := by omega
        have hc2 : (l2.length : Int) ≤ cnt 0 l2 + cnt 1 l2 + cnt 2 l2 := by omega
        have hd2 := deads_cnt l2 0
        have hl2 : l2.length ≤ 8 := by omega
        have HOK2 := Lib.hid hok2
        have HB2 := Lib.hid hb2
        have hf2 := first_cnt l2 0
        have hlo := firstFree_lo l2 0
        have hcase : (firstFree l2 0 < 0 ∧ cnt 0 l2 = 0) ∨ (0 ≤ firstFree l2 0 ∧ ((cnt 0 l2 : Int) == 0) = false) := by
          rcases Nat.eq_zero_or_pos (cnt 0 l2) with h0 | h0
          · exact .inl ⟨hf2.2 h0, h0⟩
          · exact .inr ⟨by omega, by simp; omega⟩
        clear hc hok2 hb2 hf2 hlen2 hT
        rcases hcase with ⟨hF, hC⟩ | ⟨hF, hC⟩
        all_goals
          go_wp2_with (first
            | (go_at_call 14; refine (many_ok (h + 1) h _ l2 _ (by assumption)).mono ?_; rintro e wm ⟨rfl, hbm⟩; have htm : Tab wm (h + 1) h l2 := Tab.later (by assumption) hbm; have hbb : Below w.heap.size w wm := by first | exact HB2.out.trans (hbm.mono HB2.out.size) | exact Below.trans (by assumption) (hbm.mono (Below.size (by assumption))))
            | (go_at_call 15; refine (len_ok (h + 1) _ _ _ _ (Tab.own (by assumption))).mono ?_; rintro e wm ⟨rfl, rfl⟩)
            | (go_at_call 16; refine (dead_ok (h + 1) h l2 _ (by assumption)).mono ?_; rintro e wm ⟨vd, rfl, hod, hbm⟩; obtain ⟨Ad, cd, rfl, zd, rdd⟩ := own_form hod; have htm : Tab wm (h + 1) h l2 := Tab.later (by assumption) hbm; have hbb : Below w.heap.size w wm := Below.trans (by assumption) (hbm.mono (Below.size (by assumption))); clear hod zd rdd)
            | (go_at_call 17; refine (first_ok (h + 1) h l2 _ (by assumption)).mono ?_; rintro e wm ⟨rfl, hbm⟩; have htm : Tab wm (h + 1) h l2 := Tab.later (by assumption) hbm; have hbb : Below w.heap.size w wm := Below.trans (by assumption) (hbm.mono (Below.size (by assumption)))))
          go_roundw
          case rel => exact ⟨k + 1, l2, by omega, by go_num, by assumption, HOK2.out, by omega, by assumption⟩
          case measure => simp [intOf]; omega
    · obtain rfl : k = len := by omega
      clear ra
      go_wp2
      go_ret
      exact ⟨rfl, hB⟩

/-- What the row tells of a slice of acts. -/
theorem acts_of {A : Option Addr} {len : Nat} {w : World}
    (h : len ≤ maxLen ∧ ∀ i, i < len → ∃ x, A = some x ∧ ∃ (c0 : Int) (c1 : Int) (c2 : Int) (c3 : Int) (c4 : Int), w.cell? (x.add (i * 5 + 0)) = some (.int .i8 c0) ∧ w.cell? (x.add (i * 5 + 1)) = some (.int .i8 c1) ∧ w.cell? (x.add (i * 5 + 2)) = some (.int .u8 c2) ∧ w.cell? (x.add (i * 5 + 3)) = some (.int .i8 c3) ∧ w.cell? (x.add (i * 5 + 4)) = some (.int .u64 c4) ∧
      (Lit.int .i8 c0).wf = true ∧ (Lit.int .i8 c1).wf = true ∧ (Lit.int .u8 c2).wf = true ∧ (Lit.int .i8 c3).wf = true ∧ (Lit.int .u64 c4).wf = true) :
    len ≤ 9223372036854775807 ∧ ∀ i, i < len → ∃ x d a s v b, A = some x ∧ ActAt w x i d a s v b ∧ (-128 ≤ d ∧ d ≤ 127) ∧ (-128 ≤ a ∧ a ≤ 127) ∧ (0 ≤ s ∧ s ≤ 255) ∧ (-128 ≤ v ∧ v ≤ 127) := by
  refine ⟨by have := h.1; unfold maxLen at this; omega, fun i hi => ?_⟩
  obtain ⟨x, hA, d, a, s, v, b, h0, h1, h2, h3, h4, w0, w1, w2, w3, w4⟩ := h.2 i hi
  exact ⟨x, d, a, s, v, b, hA, actAt_of h0 h1 h2 h3 h4, i8_in w0, i8_in w1, u8_in w2, i8_in w3⟩
theorem tableSums_true (a0 : Int) (A : Option Addr) (len c : Nat) (w : World) (h1 : (Lit.int .u8 a0).wf = true)
    (h : len ≤ maxLen ∧ ∀ i, i < len → ∃ x, A = some x ∧ ∃ (c0 : Int) (c1 : Int) (c2 : Int) (c3 : Int) (c4 : Int), w.cell? (x.add (i * 5 + 0)) = some (.int .i8 c0) ∧ w.cell? (x.add (i * 5 + 1)) = some (.int .i8 c1) ∧ w.cell? (x.add (i * 5 + 2)) = some (.int .u8 c2) ∧ w.cell? (x.add (i * 5 + 3)) = some (.int .i8 c3) ∧ w.cell? (x.add (i * 5 + 4)) = some (.int .u64 c4) ∧
      (Lit.int .i8 c0).wf = true ∧ (Lit.int .i8 c1).wf = true ∧ (Lit.int .u8 c2).wf = true ∧ (Lit.int .i8 c3).wf = true ∧ (Lit.int .u64 c4).wf = true) :
    Calls Try.prog 4 #[.int .u8 a0, .slice A len c] w fun e w' => e = .returned (.bool true) ∧ Below w.heap.size w w' := by
  obtain ⟨n, rfl, hn⟩ := u8_nat h1
  exact tableSums_walk n A len c w hn (acts_of h).2 (acts_of h).1
end Go.Proofs.Ytcnjpheeebjjbaa
