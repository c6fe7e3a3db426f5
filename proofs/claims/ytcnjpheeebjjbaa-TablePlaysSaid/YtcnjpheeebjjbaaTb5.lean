/- The walk of right: a table that holds what it must tells what it must. No further condition. -/
import Derived.Test.YtcnjpheeebjjbaaTb4
namespace Go.Proofs.Ytcnjpheeebjjbaa
open Go.RowKit
attribute [local go_sem ↓] Go.wp_at_zero Go.wp_at_succ

theorem firstFree_snoc (l : List Sg) (k : Nat) (x : Sg) (h : l[k]? = some x) : firstFree (l.take (k + 1)) 0 = if firstFree (l.take k) 0 < 0 then (if x.1 = 0 then (k : Int) else -1) else firstFree (l.take k) 0 := by
  have key : ∀ (m : List Sg) (x : Sg) (i : Nat), firstFree (m ++ [x]) i = (if firstFree m i < 0 then (if x.1 = 0 then ((i + m.length : Nat) : Int) else -1) else firstFree m i) := by
    intro m x
    induction m with
    | nil => intro i; simp [firstFree]
    | cons a m ih =>
      intro i
      simp only [List.cons_append, firstFree, List.length_cons]
      by_cases e : a.1 == 0
      · rw [if_pos e, if_pos e, if_neg (by omega)]
      · rw [if_neg e, if_neg e, ih (i + 1), show i + 1 + m.length = i + (m.length + 1) by omega]
  have hk : k < l.length := (List.getElem?_eq_some_iff.1 h).1
  rw [take_snoc_of h, key]
  have e : 0 + (l.take k).length = k := by simp; omega
  rw [e]
/-- What holds while 'right' looks. -/
structure RS (w0 W : World) (g h mb : Nat) (l : List Sg) (c0 c1 c2 : Nat) (dv : Value) (ds : List Int) : Prop where
  below : Below w0.heap.size w0 W
  tab : Tab W g h l
  arr : Blk W mb 54 #[.int .i64 c0, .int .i64 c1, .int .i64 c2]
  own : W.ownsRow w0.heap.size 3 1 dv ds.length (ds.map (.int .i64))
section
variable {w0 W W' : World} {g h mb : Nat} {l : List Sg} {c0 c1 c2 : Nat} {dv : Value} {ds : List Int}
theorem ownsRow_later {base : Nat} {e : TypeId} {size n : Nat} {v : Value} {xs : List Value} (k : W.ownsRow base e size v n xs) (hb : Below W.heap.size W W') : W'.ownsRow base e size v n xs :=
  ownsRow_fr (S := fun b => W.heap.size ≤ b) k (Fr.of_below hb fun _ _ h => h) fun b hv => by have := (k.lt b hv).2; omega
theorem RS.later (k : RS w0 W g h mb l c0 c1 c2 dv ds) (hb : Below W.heap.size W W') : RS w0 W' g h mb l c0 c1 c2 dv ds :=
  ⟨k.below.trans (hb.mono k.below.size), k.tab.later hb, k.arr.below hb k.arr.lt, ownsRow_later k.own hb⟩
theorem RS.drew (k : RS w0 W g h mb l c0 c1 c2 dv ds) : RS w0 W.drew g h mb l c0 c1 c2 dv ds := k.later (Below.refl _ _).drew
theorem RS.drewN (k : RS w0 W g h mb l c0 c1 c2 dv ds) (n : Nat) : RS w0 (W.drewN n) g h mb l c0 c1 c2 dv ds := k.later (below_drewN (Below.refl _ _) n)
theorem RS.cells (k : RS w0 W g h mb l c0 c1 c2 dv ds) : W.cell? ⟨mb, 0, none⟩ = some (.int .i64 c0) ∧ W.cell? ⟨mb, 1, none⟩ = some (.int .i64 c1) ∧ W.cell? ⟨mb, 2, none⟩ = some (.int .i64 c2) :=
  ⟨(k.arr.cell 0).trans rfl, (k.arr.cell 1).trans rfl, (k.arr.cell 2).trans rfl⟩
end

theorem RS.bump0 {w0 W : World} {g h mb : Nat} {l : List Sg} {c0 c1 c2 : Nat} {dv : Value} {ds : List Int} (k : RS w0 W g h mb l c0 c1 c2 dv ds) (hm : w0.heap.size ≤ mb) :
    RS w0 (W.setCell ⟨mb, 0, none⟩ (.int .i64 ((c0 : Int) + 1))) g h mb l (c0 + 1) c1 c2 dv ds := by
  have f : Fr (· = mb) W (W.setCell ⟨mb, 0, none⟩ (.int .i64 ((c0 : Int) + 1))) := (Fr.refl (· = mb) W).setCell (p := ⟨mb, 0, none⟩) (.inl rfl) _
  have n1 := k.tab.own.ne_ k.arr (by decide)
  have n2 := k.tab.row.ne_ k.arr (by decide)
  refine ⟨k.below.setCell hm _, k.tab.fr f n1 n2, ?_, ownsRow_fr k.own f fun b hb e => own_blk_ne k.own k.arr (by decide) (by rw [hb, e])⟩
  have := k.arr.set_ 0 (.int .i64 ((c0 : Int) + 1))
  exact this
theorem RS.bump1 {w0 W : World} {g h mb : Nat} {l : List Sg} {c0 c1 c2 : Nat} {dv : Value} {ds : List Int} (k : RS w0 W g h mb l c0 c1 c2 dv ds) (hm : w0.heap.size ≤ mb) :
    RS w0 (W.setCell ⟨mb, 1, none⟩ (.int .i64 ((c1 : Int) + 1))) g h mb l c0 (c1 + 1) c2 dv ds := by
  have f : Fr (· = mb) W (W.setCell ⟨mb, 1, none⟩ (.int .i64 ((c1 : Int) + 1))) := (Fr.refl (· = mb) W).setCell (p := ⟨mb, 1, none⟩) (.inl rfl) _
  have n1 := k.tab.own.ne_ k.arr (by decide)
  have n2 := k.tab.row.ne_ k.arr (by decide)
  refine ⟨k.below.setCell hm _, k.tab.fr f n1 n2, ?_, ownsRow_fr k.own f fun b hb e => own_blk_ne k.own k.arr (by decide) (by rw [hb, e])⟩
  have := k.arr.set_ 1 (.int .i64 ((c1 : Int) + 1))
  exact this
theorem RS.bump2 {w0 W : World} {g h mb : Nat} {l : List Sg} {c0 c1 c2 : Nat} {dv : Value} {ds : List Int} (k : RS w0 W g h mb l c0 c1 c2 dv ds) (hm : w0.heap.size ≤ mb) :
    RS w0 (W.setCell ⟨mb, 2, none⟩ (.int .i64 ((c2 : Int) + 1))) g h mb l c0 c1 (c2 + 1) dv ds := by
  have f : Fr (· = mb) W (W.setCell ⟨mb, 2, none⟩ (.int .i64 ((c2 : Int) + 1))) := (Fr.refl (· = mb) W).setCell (p := ⟨mb, 2, none⟩) (.inl rfl) _
  have n1 := k.tab.own.ne_ k.arr (by decide)
  have n2 := k.tab.row.ne_ k.arr (by decide)
  refine ⟨k.below.setCell hm _, k.tab.fr f n1 n2, ?_, ownsRow_fr k.own f fun b hb e => own_blk_ne k.own k.arr (by decide) (by rw [hb, e])⟩
  have := k.arr.set_ 2 (.int .i64 ((c2 : Int) + 1))
  exact this
theorem RS.dead {w0 W W' : World} {g h mb : Nat} {l : List Sg} {c0 c1 c2 : Nat} {dv dv' : Value} {ds : List Int} (k : RS w0 W g h mb l c0 c1 c2 dv ds) (hg : W.grownBy W' dv.ownBlock) {d : Int}
    (hown : W'.ownsRow w0.heap.size 3 1 dv' (ds.length + 1) (ds.map (.int .i64) ++ [.int .i64 d])) : RS w0 W' g h mb l c0 c1 c2 dv' (ds ++ [d]) := by
  have f := Fr.of_grown hg
  refine ⟨k.below.grown hg k.below.size fun b hb => (k.own.lt b hb).1, k.tab.fr f (fun e => own_blk_ne k.own k.tab.own (by decide) e) (fun e => own_blk_ne k.own k.tab.row (by decide) e), k.arr.fr f (fun e => own_blk_ne k.own k.arr (by decide) e), by simpa using hown⟩
set_option maxHeartbeats 6400000 in
theorem right_ok (g h h2 c : Nat) (l : List Sg) (w : World) (ht : Tab w g h l) (hv : Blk w h2 30 (sgs l).toArray) (hs : ∀ x ∈ l, x.1 = 0 ∨ x.1 = 1 ∨ x.1 = 2) :
    Calls Try.prog 19 #[.pointer (some ⟨g, 0, none⟩), .slice (some ⟨h2, 0, none⟩) l.length c] w fun e w' => e = .returned (.bool true) ∧ Below w.heap.size w w' := by
  have hf := ht.few
  have hA := (Below.refl w.heap.size w).alloc (Nat.le_refl _) (.cells #[.int .i64 0, .int .i64 0, .int .i64 0] 54)
  have hR : RS w (w.alloc (.cells #[.int .i64 0, .int .i64 0, .int .i64 0] 54)) g h w.heap.size l 0 0 0 (.slice none 0 0) [] :=
    ⟨hA, ht.later hA, Blk.new w _ _, World.ownsRow_nil _ _ _ _⟩
  obtain ⟨i0, hi0, hz0, hz1, hz2⟩ := info_parts (show (Try.prog.info? 3).map (fun i => (i.zero, i.size, i.bytes)) = some (some (.int .i64 0), 1, 8) by kernel_rfl)
  clear hA
  go_enter Try.func19, Try.ntmps19
  go_wp2
  go_loopw [6, 7, 13] (fun f d i wr => ∃ k : Nat, k ≤ l.length ∧ i = .int .i64 k ∧ f = .int .i64 (firstFree (l.take k) 0) ∧ RS w wr g h w.heap.size l (cnt 0 (l.take k)) (cnt 1 (l.take k)) (cnt 2 (l.take k)) d (deads (l.take k) 0)) (fun _ _ i _ => l.length - (intOf i).toNat)
  case atStart => exact ⟨0, by omega, rfl, rfl, hR⟩
  case round =>
    clear hR
    obtain ⟨k, hk, rfl, rfl, hR⟩ := hrel
    have hle := deads_len (l.take k) 0
    have hle2 : (l.take k).length ≤ k := List.length_take_le _ _
    by_cases hlt : k < l.length
    · obtain ⟨x, hx⟩ : ∃ x, l[k]? = some x := ⟨_, List.getElem?_eq_getElem hlt⟩
      have hv1 := hv.below hR.below hv.lt
      have e0 := (hv1.cell (k * 3)).trans (by simpa [sgv] using sgs_get l k 0 x (by decide) hx)
      have e1 := (hv1.cell (k * 3 + 1)).trans (by simpa [sgv] using sgs_get l k 1 x (by decide) hx)
      have e2 := (hv1.cell (k * 3 + 2)).trans (by simpa [sgv] using sgs_get l k 2 x (by decide) hx)
      obtain ⟨W, hW⟩ : ∃ W, W = wr.alloc (.cells #[.int .i64 x.1, .int .i64 x.2.1, .int .u64 x.2.2] 30) := ⟨_, rfl⟩
      have hRW := hR.later (W' := W) (by rw [hW]; exact (Below.refl _ _).alloc (Nat.le_refl _) _)
      have hbW : Blk W wr.heap.size 30 #[.int .i64 x.1, .int .i64 x.2.1, .int .u64 x.2.2] := by rw [hW]; exact Blk.new wr _ _
      have HW := Lib.hid hW
      clear hv1 hW
      go_wp2
      rw [← HW.out]
      have q0 : W.cell? ⟨wr.heap.size, 0, none⟩ = some (.int .i64 x.1) := (hbW.cell 0).trans rfl
      have q1 : W.cell? ⟨wr.heap.size, 1, none⟩ = some (.int .i64 x.2.1) := (hbW.cell 1).trans rfl
      have q2 : W.cell? ⟨wr.heap.size, 2, none⟩ = some (.int .u64 x.2.2) := (hbW.cell 2).trans rfl
      have hq : ∀ W : World, (binOp .neq 30 (.agg #[.int .i64 x.1, .int .i64 x.2.1, .int .u64 x.2.2]) (.agg #[.int .i64 x.1, .int .i64 x.2.1, .int .u64 x.2.2])).run Try.prog W = .ok (.bool false) W := fun W => by rw [sg_neq, decide_eq_true rfl]; rfl
      have hat := at_yes g h k l x W.drew hRW.drew.tab hx
      go_region_held3 (fun w' => w'.cell? ⟨wr.heap.size, 0, none⟩ = some (.int .i64 x.1) ∧ w'.cell? ⟨wr.heap.size, 1, none⟩ = some (.int .i64 x.2.1) ∧ w'.cell? ⟨wr.heap.size, 2, none⟩ = some (.int .u64 x.2.2))
        (first | go_keep | exact ⟨by assumption, by assumption, by assumption⟩)
        (first | (go_at_call 9; refine hat.mono ?_; rintro e w1 ⟨rfl, hb1⟩; have hR1 := hRW.drew.later hb1; have p0 := (hb1.cell (World.block_lt_of_cell? W _ q0)).trans q0; have p1 := (hb1.cell (World.block_lt_of_cell? W _ q1)).trans q1; have p2 := (hb1.cell (World.block_lt_of_cell? W _ q2)).trans q2))
      -- THE CASES
      have hs0 := cnt_snoc 0 l k x hx
      have hs1 := cnt_snoc 1 l k x hx
      have hs2 := cnt_snoc 2 l k x hx
      have hsd := deads_snoc l k x hx
      have hsf := firstFree_snoc l k x hx
      have hlo := firstFree_lo (l.take k) 0
      have l0 := cnt_le 0 (l.take k)
      have l1 := cnt_le 1 (l.take k)
      have l2 := cnt_le 2 (l.take k)
      have HRW0 := Lib.hid hR.below.size
      have hwlt : w.heap.size < wr.heap.size := hR.arr.lt
      have hst := hs x (List.mem_of_getElem? hx)
      obtain ⟨a0, a1, a2⟩ := hR1.cells
      have z0 := hR1.arr.frozen 0
      have z1 := hR1.arr.frozen 1
      have z2 := hR1.arr.frozen 2
      generalize cnt 0 (l.take k) = C0 at hs0 l0 hR1 a0
      generalize cnt 1 (l.take k) = C1 at hs1 l1 hR1 a1
      generalize cnt 2 (l.take k) = C2 at hs2 l2 hR1 a2
      generalize deads (l.take k) 0 = D at hsd hR1 hle
      generalize firstFree (l.take k) 0 = F at hsf hlo ⊢
      have HS0 := Lib.hid hs0
      have HS1 := Lib.hid hs1
      have HS2 := Lib.hid hs2
      have HSD := Lib.hid hsd
      have HF := Lib.hid hsf
      clear hs0 hs1 hs2 hsd hsf hx hR hRW hbW q0 q1 q2 hat ht hv hs e0 e1 e2 hq
      rcases hst with hst | hst | hst
      -- 0
      · have hbl := HRW0.out
        rw [hst] at p0
        have HST := Lib.hid hst
        clear hst
        have HR := Lib.hid hR1
        have HB := Lib.hid (hR1.bump0 (Nat.le_refl _))
        clear hR1
        have P0 := (World.cell?_setCell_other w1 ⟨w.heap.size, 0, none⟩ ⟨wr.heap.size, 0, none⟩ (.int .i64 ((C0 : Int) + 1)) (by intro e; have := congrArg Addr.block e; simp at this; omega)).trans p0
        have P1 := (World.cell?_setCell_other w1 ⟨w.heap.size, 0, none⟩ ⟨wr.heap.size, 1, none⟩ (.int .i64 ((C0 : Int) + 1)) (by intro e; have := congrArg Addr.block e; simp at this; omega)).trans p1
        have P2 := (World.cell?_setCell_other w1 ⟨w.heap.size, 0, none⟩ ⟨wr.heap.size, 2, none⟩ (.int .i64 ((C0 : Int) + 1)) (by intro e; have := congrArg Addr.block e; simp at this; omega)).trans p2
        rcases Int.lt_or_le F 0 with hF | hF
        · have hd := hF
          go_wp2
          go_roundw
          case rel =>
            refine ⟨k + 1, by omega, by go_num, by rw [HF.out, HST.out]; first | rfl | simp [hF] | (rw [if_pos hF, if_pos rfl]), ?_⟩
            rw [HS0.out, HS1.out, HS2.out, HSD.out]
            simp only [HST.out, isDead]
            first | exact HB.out | simpa using HB.out
          case measure => simp [intOf]; omega
        · have hd := hF
          go_wp2
          go_roundw
          case rel =>
            refine ⟨k + 1, by omega, by go_num, by rw [HF.out, HST.out]; first | rfl | (rw [if_neg (by omega)]), ?_⟩
            rw [HS0.out, HS1.out, HS2.out, HSD.out]
            simp only [HST.out, isDead]
            first | exact HB.out | simpa using HB.out
          case measure => simp [intOf]; omega
      -- 1
      · have hbl := HRW0.out
        rw [hst] at p0
        have HST := Lib.hid hst
        clear hst
        have HR := Lib.hid hR1
        have HB := Lib.hid (hR1.bump1 (Nat.le_refl _))
        clear hR1
        have P0 := (World.cell?_setCell_other w1 ⟨w.heap.size, 1, none⟩ ⟨wr.heap.size, 0, none⟩ (.int .i64 ((C1 : Int) + 1)) (by intro e; have := congrArg Addr.block e; simp at this; omega)).trans p0
        have P1 := (World.cell?_setCell_other w1 ⟨w.heap.size, 1, none⟩ ⟨wr.heap.size, 1, none⟩ (.int .i64 ((C1 : Int) + 1)) (by intro e; have := congrArg Addr.block e; simp at this; omega)).trans p1
        have P2 := (World.cell?_setCell_other w1 ⟨w.heap.size, 1, none⟩ ⟨wr.heap.size, 2, none⟩ (.int .i64 ((C1 : Int) + 1)) (by intro e; have := congrArg Addr.block e; simp at this; omega)).trans p2
        go_wp2
        go_roundw
        case rel =>
          refine ⟨k + 1, by omega, by go_num, by rw [HF.out, HST.out]; first | rfl | (split <;> first | rfl | (congr 1; omega)), ?_⟩
          rw [HS0.out, HS1.out, HS2.out, HSD.out]
          simp only [HST.out, isDead]
          first | exact HB.out | simpa using HB.out
        case measure => simp [intOf]; omega
      -- 2
      · have hbl := HRW0.out
        rw [hst] at p0
        have HST := Lib.hid hst
        clear hst
        have HR := Lib.hid hR1
        have HB := Lib.hid (hR1.bump2 (Nat.le_refl _))
        clear hR1
        have P0 := (World.cell?_setCell_other w1 ⟨w.heap.size, 2, none⟩ ⟨wr.heap.size, 0, none⟩ (.int .i64 ((C2 : Int) + 1)) (by intro e; have := congrArg Addr.block e; simp at this; omega)).trans p0
        have P1 := (World.cell?_setCell_other w1 ⟨w.heap.size, 2, none⟩ ⟨wr.heap.size, 1, none⟩ (.int .i64 ((C2 : Int) + 1)) (by intro e; have := congrArg Addr.block e; simp at this; omega)).trans p1
        have P2 := (World.cell?_setCell_other w1 ⟨w.heap.size, 2, none⟩ ⟨wr.heap.size, 2, none⟩ (.int .i64 ((C2 : Int) + 1)) (by intro e; have := congrArg Addr.block e; simp at this; omega)).trans p2
        by_cases hl : x.2.1 = 0
        · rw [hl] at p1 P1
          have HL := Lib.hid hl
          clear hl
          have HA := Lib.hid (HB.out.later ((Below.refl _ _).alloc (Nat.le_refl _) (.cells #[.int .i64 k] 3)))
          go_wp2_with (at_builtin; refine wpList_append_any _ rfl _ _ 43 rfl w.heap.size 3 i0 (.int .i64 0) 1 8 Try.underlying43 hi0 hz0 hz1 hz2 rfl (by decide) u7 D.length (D.map (.int .i64)) rfl HA.out.own (some ⟨w1.heap.size, 0, none⟩) 1 1 [.int .i64 k] rfl rfl (Rd.one _ _ _ (by simp [World.setCell])) (by intro u hu; simp at hu; subst hu; rfl) (by unfold maxLen; omega) (by omega) HA.out.below.size ?_; intro v1 w2 hown1 hg1 hat1)
          have HD := Lib.hid (HA.out.dead hg1 hown1)
          go_roundw
          case rel =>
            refine ⟨k + 1, by omega, by go_num, by rw [HF.out, HST.out]; first | rfl | (split <;> first | rfl | (congr 1; omega)), ?_⟩
            rw [HS0.out, HS1.out, HS2.out, HSD.out]
            simp only [HST.out, isDead, HL.out]
            first | exact HD.out | simpa using HD.out
          case measure => simp [intOf]; omega
        · have hl2 : (x.2.1 == 0) = false := by simp [hl]
          have HL := Lib.hid hl2
          clear hl
          go_wp2
          go_roundw
          case rel =>
            refine ⟨k + 1, by omega, by go_num, by rw [HF.out, HST.out]; first | rfl | (split <;> first | rfl | (congr 1; omega)), ?_⟩
            rw [HS0.out, HS1.out, HS2.out, HSD.out]
            simp only [HST.out, isDead, HL.out]
            first | exact HB.out | simpa using HB.out
          case measure => simp [intOf]; omega
    · -- THE LAST REGION
      obtain rfl : k = l.length := by omega
      rw [List.take_length] at hR hle ⊢
      have hv1 := hv.below hR.below hv.lt
      clear hv hlt hk hle2
      have hFF := firstFree_lo l 0
      obtain ⟨A7, c7, rfl, z7, rd7⟩ := own_form hR.own
      go_wp2
      have hvd : Blk wr.drew h2 30 (sgs l).toArray := hv1
      have HV := Lib.hid hvd
      have hrd := hR.drew
      obtain ⟨q0, q1, q2⟩ := hrd.cells
      have HR := Lib.hid hR
      clear hvd hR hv1 ht hs
      go_region_held3 (fun w' => w'.cell? ⟨w.heap.size, 0, none⟩ = some (.int .i64 (cnt 0 l)) ∧ w'.cell? ⟨w.heap.size, 1, none⟩ = some (.int .i64 (cnt 1 l)) ∧ w'.cell? ⟨w.heap.size, 2, none⟩ = some (.int .i64 (cnt 2 l)))
        (first | exact ⟨by assumption, by assumption, by assumption⟩ | go_keep)
        (first
          | (go_at_call 8; refine (all_ok g h l _ hrd.tab).mono ?_; rintro e wa ⟨va, rfl, hoa, hba⟩; obtain ⟨Aa, ca, rfl, za, rda⟩ := own_form hoa; have hra := hrd.later hba; obtain ⟨pa0, pa1, pa2⟩ := hra.cells; have HVA := Lib.hid (HV.out.below hba HV.out.lt); clear hrd hba hoa)
          | (go_at_call 24; refine (equal_ok Aa (some ⟨h2, 0, none⟩) ca c l l _ za (fun ad e => ⟨h2, (Option.some.inj e).symm⟩) rda (by have := Rd.of_blk HVA.out 0 (l.length * 3); rw [List.drop_zero, List.take_of_length_le (by simp [sgs_len])] at this; exact this) (by omega)).mono ?_; rintro e wb ⟨rfl, nb, rfl⟩; have hrb := hra.drewN nb; clear hra za rda; have hdl : decide (l = l) = true := by simp)
          | (go_at_call 14; refine (many_ok g h _ l _ (RS.tab (by assumption))).mono ?_; rintro e wm ⟨rfl, hbm⟩; have hrm := RS.later (by assumption) hbm; obtain ⟨pm0, pm1, pm2⟩ := hrm.cells; clear hbm)
          | (go_at_call 17; refine (first_ok g h l _ (RS.tab (by assumption))).mono ?_; rintro e wf ⟨rfl, hbf⟩; have hrf := RS.later (by assumption) hbf; obtain ⟨pf0, pf1, pf2⟩ := hrf.cells; clear hbf)
          | (go_at_call 16; refine (dead_ok g h l _ hrf.tab).mono ?_; rintro e wd ⟨vd, rfl, hod, hbd⟩; obtain ⟨Ad, cd, rfl, zd, rdd⟩ := own_form hod; have hre := hrf.later hbd; obtain ⟨pd0, pd1, pd2⟩ := hre.cells; clear hbd hod)
          | (go_at_call 25; refine (equali_ok Ad A7 cd c7 (deads l 0) (deads l 0) _ rdd (Rd.of_own hre.own) (by omega)).mono ?_; rintro e wg ⟨rfl, ng, rfl⟩; have hrg := hre.drewN ng; have hdd : decide (deads l 0 = deads l 0) = true := by simp))
      go_wp2
      go_ret
      exact ⟨rfl, hrg.below⟩
end Go.Proofs.Ytcnjpheeebjjbaa
